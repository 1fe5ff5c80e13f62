/-
  MeterRanks.
-/
import Derived.Test.YtpjlplkoiedhjaaMetR
import Derived.Test.YtpjlplkoiedhjaaOpen
namespace Go.Proofs.Ytpjlplkoiedhjaa
open Go.RowKit Go.Shoal Go.ChangeShapes Go.WideShapes Go.ChangeAt

theorem nums_cell {w : World} {A : Option Addr} {c : Nat} {l : List Int} (hz : NumsIn .i16 w (.slice A l.length c) l) (k : Nat) (hk : k < l.length) :
    ∃ b o, A = some ⟨b, o, none⟩ ∧ (-32768 ≤ l.getD k 0 ∧ l.getD k 0 ≤ 32767) ∧ ∀ W, Below w.heap.size w W → W.cell? ⟨b, o + k, none⟩ = some (.int .i16 (l.getD k 0)) := by
  obtain ⟨A', c', he, _, hx, hf⟩ := hz
  cases he
  rcases hx with hx | ⟨b, o, rfl, hb, hc⟩
  · subst hx; exact absurd hk (Nat.not_lt_zero k)
  · refine ⟨b, o, rfl, ?_, fun W hB => (hB.cell (p := ⟨b, o + k, none⟩) hb).trans (hc k hk)⟩
    have h := hf (l.getD k 0) (by rw [List.getD_eq_getElem?_getD, List.getElem?_eq_getElem hk]; exact List.getElem_mem hk)
    simpa [Lit.wf, IntKind.min, IntKind.max, IntKind.signed, IntKind.bits] using h
theorem ofInt_lt (c : Int) : floatOfInt .f64 c < B64 := (ofInt_rd c).1
theorem ranks_out (v : Value) (l : List Int) (x y : Nat) (w : World) (hz : NumsIn .i16 w v l) (h : l.length < 1 ∨ 60 < l.length) :
    Calls Try.prog 4 #[v, .float .f64 x, .float .f64 y] w fun e w' => e = .returned (.bool true) ∧ Below w.heap.size w w' := by
  obtain ⟨A, c, rfl, hl, _⟩ := hz
  unfold maxLen at hl
  have HA := Lib.hid (awake_any w)
  by_cases h1 : l.length < 1
  · have t1 : decide ((l.length : Int) < 1) = true := decide_eq_true (by omega)
    clear h
    go_enter Try.func4, Try.ntmps4
    go_wp2_with fail
    refine HA.out.mono ?_
    rintro e w1 ⟨rfl, hm⟩
    have HM := Lib.hid hm.none_below
    clear hm
    go_wp2
    go_ret
    exact ⟨rfl, HM.out⟩
  have t1 : decide ((l.length : Int) < 1) = false := decide_eq_false (by omega)
  have t2 : decide ((60 : Int) < (l.length : Int)) = true := decide_eq_true (by omega)
  clear h
  go_enter Try.func4, Try.ntmps4
  go_wp2_with fail
  refine HA.out.mono ?_
  rintro e w1 ⟨rfl, hm⟩
  have HM := Lib.hid hm.none_below
  clear hm
  go_wp2
  go_ret
  exact ⟨rfl, HM.out⟩
theorem cmp_le (x y : Nat) : decide (cmpW x y ≤ 0) = decide (fkey x ≤ fkey y) := by
  unfold cmpW
  split
  · rw [decide_eq_true (show fkey x ≤ fkey y by omega)]; rfl
  · split
    · rw [decide_eq_false (show ¬ fkey x ≤ fkey y by omega)]; rfl
    · rw [decide_eq_true (show fkey x ≤ fkey y by omega)]; rfl
set_option maxRecDepth 100000 in
set_option maxHeartbeats 4000000 in
theorem ranks_in (v : Value) (l : List Int) (x y : Nat) (w : World) (hz : NumsIn .i16 w v l) (hx : x < B64) (hy : y < B64) (h1 : 1 ≤ l.length) (h2 : l.length ≤ 60) :
    Calls Try.prog 4 #[v, .float .f64 x, .float .f64 y] w fun e w' => e = .returned (.bool true) ∧ Below w.heap.size w w' := by
  obtain ⟨A, c, rfl⟩ : ∃ A c, v = .slice A l.length c := by obtain ⟨A, c, h, _⟩ := hz; exact ⟨A, c, h⟩
  have HZ := Lib.hid hz
  have HA := Lib.hid (awake_any w)
  have HX : Hid (x < B64) := hx
  have HY : Hid (y < B64) := hy
  have t1 : decide ((l.length : Int) < 1) = false := decide_eq_false (by omega)
  have t2 : decide ((60 : Int) < (l.length : Int)) = false := decide_eq_false (by omega)
  clear hz hx hy
  go_enter Try.func4, Try.ntmps4
  go_wp2_with fail
  refine HA.out.mono ?_
  rintro e w1 ⟨rfl, hm⟩
  have HM1 := Lib.hid hm.none_below
  clear hm HA
  go_wp2_with fail
  refine (new_any _).mono ?_
  intro e w2 hn
  have HT : Hid (Sit w w1.heap.size newMt w2) := (Sit.new hn HM1.out).2
  obtain ⟨rfl, -, -⟩ := hn
  clear HM1
  generalize w1.heap.size = g at *
  go_wp2
  go_loopw [8, 9] (fun s i wr => ∃ (k : Nat) (t : Int), k ≤ l.length ∧ i = .int .i64 k ∧ s = .int .i64 t ∧ Hid (∃ m, Sit w g m wr ∧ RkAt t k m)) (fun _ i _ => l.length - (intOf i).toNat)
  case atStart => exact ⟨0, 0, Nat.zero_le _, rfl, rfl, ⟨_, HT.out, RkAt.new⟩⟩
  case round =>
    obtain ⟨k, t, hk, rfl, rfl, hD⟩ := hrel
    obtain ⟨m, hS, hO⟩ := hD.out
    have hsb := hO.sb
    have b1 : -1966080 ≤ t := by omega
    have b2 : t ≤ 1966080 := by omega
    have HS := Lib.hid hS
    have HO := Lib.hid hO
    clear hS hO hD hsb
    by_cases hlt : k < l.length
    · obtain ⟨b, o, rfl, hc1, hc⟩ := nums_cell HZ.out k hlt
      have HC := Lib.hid hc
      have hi : (k : Int) < l.length := by omega
      have hi0 : (0 : Int) ≤ (k : Int) := by omega
      have tk : decide (k < l.length) = true := decide_eq_true hlt
      generalize l.getD k 0 = c at *
      have HR : Hid (-32768 ≤ c ∧ c ≤ 32767) := hc1
      obtain ⟨c1, c2⟩ := hc1
      have k0 := HC.out wr HS.out.bel
      have HAD := Lib.hid (sit_add HS.out (ofInt_lt c) (by have := HO.out.len; omega))
      clear hc
      go_wp2_with fail
      refine HAD.out.mono ?_
      rintro e w4 ⟨rfl, m', ha, hS⟩
      have k1 := HC.out w4 hS.bel
      have HE : Hid (∃ m, Sit w g m w4 ∧ RkAt (t + c) (k + 1) m) := ⟨m', hS, HO.out.step (by omega) HR.out ha (ofInt_lt c)⟩
      clear ha hS HAD k0
      go_wp2
      go_roundw
      case rel => exact ⟨k + 1, t + c, by omega, by go_num, rfl, HE⟩
      case measure => simp [intOf]; omega
    · obtain rfl : k = l.length := by omega
      have ti : decide (l.length < l.length) = false := decide_eq_false (by omega)
      obtain ⟨f1, f2, f3, fb1, fb2⟩ := HO.out.ends (by omega)
      obtain ⟨q1, q2, q3⟩ := HO.out.lo (by omega)
      obtain ⟨q4, q5, q6⟩ := HO.out.hi (by omega)
      have hsm := @small_word t (by have : B52 = 4503599627370496 := by decide
                                    omega)
      have t3 : (FloatKind.f64.format.order m.s (floatOfInt .f64 t) != some Ordering.eq) = false := by
        have := order_true HO.out.sf hsm.1 (HO.out.s.trans hsm.2.symm)
        simp only [bne, this, Bool.not_true]
      have t4 : (FloatKind.f64.format.order m.sm m.le == some Ordering.lt) = false := by
        rw [order_ltV f3.num f1.num]; exact decide_eq_false (by omega)
      have t5 : (FloatKind.f64.format.order m.sm m.mo == some Ordering.gt) = false := by
        rw [order_gtV f3.num f2.num]; exact decide_eq_false (by omega)
      have HMEAN : Hid (∀ r, MeanOf m r → (FloatKind.f64.format.order r m.le == some Ordering.lt) = false ∧ (FloatKind.f64.format.order r m.mo == some Ordering.gt) = false) := Lib.hid fun r hr => by
        obtain ⟨z1, z2, z3⟩ := HO.out.mean (by omega) h2 hr
        exact ⟨by rw [order_ltV z1 f1.num]; exact decide_eq_false (by omega), by rw [order_gtV z1 f2.num]; exact decide_eq_false (by omega)⟩
      have HLE := Lib.hid (sit_least HS.out)
      have HRLE : Hid (∀ W, Sit w g m W → Calls Try.prog 15 #[.pointer (some ⟨g, 0, none⟩), .float .f64 m.le] W fun e w' => e = .returned (.int .i64 0) ∧ ∃ n, w' = W.drewN n) := Lib.hid fun W hW => by
        have := sit_rank hW m.le fb1 (by have := HO.out.len; omega)
        rw [HO.out.low] at this
        exact this
      have HRIN : Hid (∀ W, Sit w g m W → Calls Try.prog 15 #[.pointer (some ⟨g, 0, none⟩), .float .f64 INF] W fun e w' => e = .returned (.int .i64 (l.length : Int)) ∧ ∃ n, w' = W.drewN n) := Lib.hid fun W hW => by
        have := sit_rank hW INF (by decide) (by have := HO.out.len; omega)
        rw [HO.out.high] at this
        exact this
      have hlen := HO.out.len
      have HRX : Hid (∀ W, Sit w g m W → Calls Try.prog 15 #[.pointer (some ⟨g, 0, none⟩), .float .f64 x] W fun e w' => e = .returned (.int .i64 (rank m.ks (fkey x) : Int)) ∧ ∃ n, w' = W.drewN n) := Lib.hid fun W hW => sit_rank hW x HX.out (by omega)
      have HRY : Hid (∀ W, Sit w g m W → Calls Try.prog 15 #[.pointer (some ⟨g, 0, none⟩), .float .f64 y] W fun e w' => e = .returned (.int .i64 (rank m.ks (fkey y) : Int)) ∧ ∃ n, w' = W.drewN n) := Lib.hid fun W hW => sit_rank hW y HY.out (by omega)
      have HMO : Hid (decide (cmpW x y ≤ 0) = true → decide (rank m.ks (fkey y) < rank m.ks (fkey x)) = false) := Lib.hid fun h => by
        rw [cmp_le] at h
        have := rank_mono m.ks (of_decide_eq_true h)
        exact decide_eq_false (by omega)
      have HCM := Lib.hid (fun W => rcmp_any x y W HX.out HY.out)
      generalize rank m.ks (fkey x) = rx at *
      generalize rank m.ks (fkey y) = ry at *
      generalize cmpW x y = cm at *
      clear f1 f2 f3 fb1 fb2 q1 q2 q3 q4 q5 q6 hsm hlt hlen
      go_wp2_with fail
      refine (sit_sum HS.out).mono ?_
      rintro e w4 ⟨rfl, rfl⟩
      go_wp2_with fail
      refine (sit_mean HS.out).mono ?_
      rintro e w6 ⟨⟨r, rfl, hr⟩, n6, rfl⟩
      have HR := Lib.hid hr
      have s1 := (HMEAN.out r hr).1
      have HS6 : Hid (Sit w g m (wr.drewN n6)) := HS.out.drewN n6
      clear hr HS HLE
      generalize World.drewN wr n6 = w6 at *
      go_wp2_with fail
      refine (sit_least HS6.out).mono ?_
      rintro e w7 ⟨rfl, rfl⟩
      go_wp2_with fail
      refine (sit_mean HS6.out).mono ?_
      rintro e w7 ⟨⟨r7, rfl, hr⟩, n7, rfl⟩
      have s2 := (HMEAN.out r7 hr).2
      have HS7 : Hid (Sit w g m (w6.drewN n7)) := HS6.out.drewN n7
      clear hr HS6 s1
      generalize World.drewN w6 n7 = w7 at *
      go_wp2_with fail
      refine (sit_most HS7.out).mono ?_
      rintro e w8 ⟨rfl, rfl⟩
      go_wp2_with fail
      refine (sit_smooth HS7.out).mono ?_
      rintro e w8 ⟨rfl, rfl⟩
      go_wp2_with fail
      refine (sit_least HS7.out).mono ?_
      rintro e w8 ⟨rfl, rfl⟩
      go_wp2_with fail
      refine (sit_smooth HS7.out).mono ?_
      rintro e w8 ⟨rfl, rfl⟩
      go_wp2_with fail
      refine (sit_most HS7.out).mono ?_
      rintro e w8 ⟨rfl, rfl⟩
      go_wp2_with fail
      refine (HCM.out _).mono ?_
      rintro e w8 ⟨rfl, rfl⟩
      cases tc : decide (cm ≤ 0)
      · go_wp2_with fail
        refine (sit_least HS7.out).mono ?_
        rintro e w8 ⟨rfl, rfl⟩
        go_wp2_with fail
        refine (HRLE.out _ HS7.out).mono ?_
        rintro e w8 ⟨rfl, n8, rfl⟩
        have HS8 : Hid (Sit w g m (w7.drewN n8)) := HS7.out.drewN n8
        generalize World.drewN w7 n8 = w8 at *
        go_wp2_with fail
        refine (inf_any _).mono ?_
        rintro e w9 ⟨rfl, rfl⟩
        go_wp2_with fail
        refine (HRIN.out _ HS8.out).mono ?_
        rintro e w9 ⟨rfl, n9, rfl⟩
        have HS9 : Hid (Sit w g m (w8.drewN n9)) := HS8.out.drewN n9
        go_wp2
        go_ret
        exact ⟨rfl, HS9.out.bel⟩
      · have s9 := HMO.out tc
        go_wp2_with fail
        refine (HRX.out _ HS7.out).mono ?_
        rintro e w8 ⟨rfl, n8, rfl⟩
        have HS8 : Hid (Sit w g m (w7.drewN n8)) := HS7.out.drewN n8
        clear HS7
        generalize World.drewN w7 n8 = w8 at *
        go_wp2_with fail
        refine (HRY.out _ HS8.out).mono ?_
        rintro e w9 ⟨rfl, n9, rfl⟩
        have HS9 : Hid (Sit w g m (w8.drewN n9)) := HS8.out.drewN n9
        clear HS8
        generalize World.drewN w8 n9 = w9 at *
        go_wp2_with fail
        refine (sit_least HS9.out).mono ?_
        rintro e w10 ⟨rfl, rfl⟩
        go_wp2_with fail
        refine (HRLE.out _ HS9.out).mono ?_
        rintro e w10 ⟨rfl, n10, rfl⟩
        have HS10 : Hid (Sit w g m (w9.drewN n10)) := HS9.out.drewN n10
        clear HS9
        generalize World.drewN w9 n10 = w10 at *
        go_wp2_with fail
        refine (inf_any _).mono ?_
        rintro e w11 ⟨rfl, rfl⟩
        go_wp2_with fail
        refine (HRIN.out _ HS10.out).mono ?_
        rintro e w11 ⟨rfl, n11, rfl⟩
        have HS11 : Hid (Sit w g m (w10.drewN n11)) := HS10.out.drewN n11
        go_wp2
        go_ret
        exact ⟨rfl, HS11.out.bel⟩
theorem flt_lt {x : Nat} (hx : (Lit.float .f64 x).wf = true) : x < B64 := by
  have h : x < 2 ^ 64 := by simpa [Lit.wf] using hx
  exact h
theorem ranks_walk {H : Type} {enc : TypeId × Value → H} {b0 : Nat} {d : DataW H} {ps : List MemPlace} (W : World) (v : Value) (hok : Value.okWide Try.prog W .any b0 31 v)
    (h : DataW.Trod enc Try.prog W 0 (fun _ => true) true 31 v d ps) (x : Nat) (hx : (Lit.float .f64 x).wf = true) (y : Nat) (hy : (Lit.float .f64 y).wf = true) :
    Calls Try.prog 4 #[v, .float .f64 x, .float .f64 y] W fun e w' => e = .returned (.bool true) ∧ Below W.heap.size W w' := by
  obtain ⟨l, hz⟩ := open_nums Try.underlying31 Try.underlying32 (show Try.prog.cellsOf 32 = 1 by kernel_rfl) hok h
  by_cases h : l.length < 1 ∨ 60 < l.length
  · exact ranks_out v l x y W hz h
  · exact ranks_in v l x y W hz (flt_lt hx) (flt_lt hy) (by omega) (by omega)
end Go.Proofs.Ytpjlplkoiedhjaa
