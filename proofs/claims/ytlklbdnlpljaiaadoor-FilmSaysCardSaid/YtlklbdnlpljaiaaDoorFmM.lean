/-
  FilmParts.
-/
import Derived.Test.YtlklbdnlpljaiaaDoorFmL
namespace Go.Proofs.YtlklbdnlpljaiaaDoor
open Go.RowKit Go.Shoal

def InR (e : Ev) : Prop := 0 ≤ e.p ∧ e.p ≤ 9 ∧ 0 ≤ e.kind ∧ e.kind ≤ 9
def sumAt (l : List Ev) : Nat → Nat
  | 0 => 0
  | q + 1 => sumAt l q + (atL l (q : Int)).length
def sumCnt (l : List Ev) : Nat → Nat
  | 0 => 0
  | q + 1 => sumCnt l q + cntL l (q : Int)
theorem sumAt_len1 (e : Ev) (l : List Ev) (q : Int) : (atL (e :: l) q).length = (atL l q).length + (if e.p = q then 1 else 0) := by
  unfold atL
  rw [List.filter_cons]
  by_cases h : e.p = q
  · rw [if_pos h]; simp [h]
  · rw [if_neg h]; simp [h]
theorem sumAt_cons (e : Ev) (l : List Ev) : ∀ q, sumAt (e :: l) q = sumAt l q + (if 0 ≤ e.p ∧ e.p < (q : Int) then 1 else 0)
  | 0 => by
    rw [if_neg (by omega)]
    rfl
  | q + 1 => by
    have ih := sumAt_cons e l q
    show sumAt (e :: l) q + (atL (e :: l) (q : Int)).length = sumAt l q + (atL l (q : Int)).length + _
    rw [ih, sumAt_len1]
    split <;> split <;> split <;> omega
theorem sumAt_all : ∀ (l : List Ev), (∀ e ∈ l, InR e) → sumAt l 10 = l.length
  | [], _ => rfl
  | e :: l, h => by
    have he := h e (List.mem_cons_self ..)
    rw [sumAt_cons, sumAt_all l (fun x hx => h x (List.mem_cons_of_mem _ hx)), if_pos ⟨he.1, by have := he.2.1; omega⟩]
    rfl
theorem sumCnt_len1 (e : Ev) (l : List Ev) (q : Int) : cntL (e :: l) q = cntL l q + (if e.kind = q then 1 else 0) := by
  unfold cntL
  rw [List.filter_cons]
  by_cases h : e.kind = q
  · rw [if_pos h]; simp [h]
  · rw [if_neg h]; simp [h]
theorem sumCnt_cons (e : Ev) (l : List Ev) : ∀ q, sumCnt (e :: l) q = sumCnt l q + (if 0 ≤ e.kind ∧ e.kind < (q : Int) then 1 else 0)
  | 0 => by
    rw [if_neg (by omega)]
    rfl
  | q + 1 => by
    have ih := sumCnt_cons e l q
    show sumCnt (e :: l) q + cntL (e :: l) (q : Int) = sumCnt l q + cntL l (q : Int) + _
    rw [ih, sumCnt_len1]
    split <;> split <;> split <;> omega
theorem sumCnt_all : ∀ (l : List Ev), (∀ e ∈ l, InR e) → sumCnt l 10 = l.length
  | [], _ => rfl
  | e :: l, h => by
    have he := h e (List.mem_cons_self ..)
    rw [sumCnt_cons, sumCnt_all l (fun x hx => h x (List.mem_cons_of_mem _ hx)), if_pos ⟨he.2.2.1, by have := he.2.2.2; omega⟩]
    rfl
theorem sumAt_le (l : List Ev) : ∀ q, sumAt l q ≤ q * l.length
  | 0 => Nat.zero_le _
  | q + 1 => by
    have := sumAt_le l q
    have h := atL_len l (q : Int)
    show sumAt l q + _ ≤ _
    rw [Nat.add_mul]
    omega
theorem sumCnt_le (l : List Ev) : ∀ q, sumCnt l q ≤ q * l.length
  | 0 => Nat.zero_le _
  | q + 1 => by
    have := sumCnt_le l q
    have h := cntL_len l (q : Int)
    show sumCnt l q + _ ≤ _
    rw [Nat.add_mul]
    omega
/-- While the events are added. -/
def PutRel (B : Nat) (w1 : World) (l : List Ev) (k : Nat) (wr : World) : Prop := (∃ v, FilmAt wr B B (l.take k) v) ∧ Mod (fun q => B ≤ q) w1 wr ∧ ∀ e ∈ l.take k, InR e
set_option maxRecDepth 100000 in
set_option maxHeartbeats 16000000 in
theorem parts_any (v : Value) (l : List Ev) (w : World) (hz : Evs w v l) (hT : Tab w) :
    Calls Tryd.prog 3 #[v] w fun e w' => e = .returned (.bool true) ∧ Below w.heap.size w w' := by
  obtain ⟨A0, c0, rfl, hl, hfit, hz⟩ := hz
  unfold maxLen at hl
  have HA := Lib.hid (awake_any w hT)
  have HZ := Lib.hid hz
  have HFIT : Hid (∀ e ∈ l, e.Ok) := fun e he => by
    obtain ⟨i, hi, rfl⟩ := List.getElem_of_mem he
    have := hfit i hi
    rw [List.getD_eq_getElem?_getD, List.getElem?_eq_getElem hi] at this
    exact this
  clear hz hT hfit
  by_cases h60 : 60 < l.length
  · have t60 : decide (60 < (l.length : Int)) = true := decide_eq_true (by omega)
    clear h60
    go_enter Tryd.func3, Tryd.ntmps3
    go_wp2_with fail
    refine HA.out.mono ?_
    rintro q w1 ⟨rfl, hm⟩
    have HM := Lib.hid hm.none_below
    clear hm
    go_wp2
    go_ret
    exact ⟨rfl, HM.out⟩
  have t60 : decide (60 < (l.length : Int)) = false := decide_eq_false (by omega)
  have hl60 : l.length ≤ 60 := by omega
  clear hl h60
  go_enter Tryd.func3, Tryd.ntmps3
  go_wp2_with fail
  refine HA.out.mono ?_
  rintro q w1 ⟨rfl, hm⟩
  have HM := Lib.hid hm
  clear hm HA
  go_wp2_with fail
  refine (new_any w1).mono ?_
  rintro q w2 ⟨rfl, hw2⟩
  have H0 : Hid (PutRel w1.heap.size w1 l 0 w2) := by
    show PutRel _ _ _ _ _
    rw [hw2]
    exact ⟨⟨_, film_new w1 w1.heap.size (Nat.le_refl _)⟩, (Mod.refl _ _).alloc _, fun e he => by cases he⟩
  have HBASE : Hid (w.heap.size ≤ w1.heap.size) := HM.out.size
  have HBE : Hid (∀ W, Mod (fun q => w1.heap.size ≤ q) w1 W → Below w.heap.size w W) := fun W hW => by
    have h1 := HM.out
    exact h1.none_below.trans (hW.below (fun i hi h => by have := h1.size; omega) h1.size)
  clear hw2
  generalize w1.heap.size = B at *
  go_wp2
  go_loopw [4] (fun i wr => ∃ k : Nat, k ≤ l.length ∧ i = .int .i64 k ∧ Hid (PutRel B w1 l k wr)) (fun i _ => l.length - (intOf i).toNat)
  case atStart => exact ⟨0, Nat.zero_le _, rfl, H0⟩
  case round =>
    obtain ⟨k, hk, rfl, hD⟩ := hrel
    have HBW : Hid (Below w.heap.size w wr) := HBE.out wr hD.out.2.1
    by_cases hlt : k < l.length
    · obtain ⟨b, o, rfl, hb, hc⟩ := ElemsIn.cell HZ.out HBW.out k hlt
      have hi : (k : Int) < l.length := by omega
      have hi0 : (0 : Int) ≤ (k : Int) := by omega
      have tk : decide (k < l.length) = true := decide_eq_true hlt
      obtain ⟨e, he⟩ : ∃ e, l[k]? = some e := ⟨_, List.getElem?_eq_getElem hlt⟩
      rw [List.getD_eq_getElem?_getD, he] at hc
      have HTS := Lib.hid (take_snocE he)
      obtain ⟨kd, p, f, n, d, vr, x, g, r⟩ := e
      have k0 := hc 0 (.int .i64 kd) rfl
      have k1 := hc 1 (.int .i64 p) rfl
      have k2 := hc 2 (.int .i64 f) rfl
      have k3 := hc 3 (.int .u64 n) rfl
      have k4 := hc 4 (.int .u64 d) rfl
      have k5 := hc 5 (.int .i64 vr) rfl
      have k6 := hc 6 (.float .f64 x) rfl
      have k7 := hc 7 (.int .u64 g) rfl
      have k8 := hc 8 (.int .i64 r) rfl
      rw [Nat.add_zero] at k0
      clear hc he hb
      by_cases g1 : p < 0
      · have t1 : decide (p < 0) = true := decide_eq_true g1
        clear g1 hD
        go_wp2
        go_ret
        exact ⟨rfl, HBW.out⟩
      have t1 : decide (p < 0) = false := decide_eq_false g1
      by_cases g2 : 9 < p
      · have t2 : decide (9 < p) = true := decide_eq_true g2
        clear g1 g2 hD
        go_wp2
        go_ret
        exact ⟨rfl, HBW.out⟩
      have t2 : decide (9 < p) = false := decide_eq_false g2
      by_cases g3 : kd < 0
      · have t3 : decide (kd < 0) = true := decide_eq_true g3
        clear g1 g2 g3 hD
        go_wp2
        go_ret
        exact ⟨rfl, HBW.out⟩
      have t3 : decide (kd < 0) = false := decide_eq_false g3
      by_cases g4 : 9 < kd
      · have t4 : decide (9 < kd) = true := decide_eq_true g4
        clear g1 g2 g3 g4 hD
        go_wp2
        go_ret
        exact ⟨rfl, HBW.out⟩
      have t4 : decide (9 < kd) = false := decide_eq_false g4
      have HIR : Hid (InR ⟨kd, p, f, n, d, vr, x, g, r⟩) := ⟨by show (0 : Int) ≤ p; omega, by show p ≤ 9; omega, by show (0 : Int) ≤ kd; omega, by show kd ≤ 9; omega⟩
      clear g1 g2 g3 g4
      obtain ⟨⟨fv, hF⟩, hmr, hin⟩ := hD.out
      have HADD : Hid (Calls Tryd.prog 9 #[.pointer (some ⟨B, 0, none⟩), .agg #[.int .i64 kd, .int .i64 p, .int .i64 f, .int .u64 n, .int .u64 d, .int .i64 vr, .float .f64 x, .int .u64 g, .int .i64 r]] wr (Added wr B B (l.take k ++ [⟨kd, p, f, n, d, vr, x, g, r⟩]))) := add_any B B (l.take k) fv ⟨kd, p, f, n, d, vr, x, g, r⟩ wr hF (by rw [List.length_take]; omega)
      have HMR := Lib.hid hmr
      have HIN := Lib.hid hin
      clear hF hmr hin hD
      go_wp2_with fail
      refine HADD.out.mono ?_
      rintro q w3 ⟨rfl, hf, hm⟩
      have HN : Hid (PutRel B w1 l (k + 1) w3) := by
        show PutRel _ _ _ _ _
        unfold PutRel
        rw [HTS.out]
        refine ⟨hf, HMR.out.trans' hm (fun i _ h => h), fun e he => ?_⟩
        rcases List.mem_append.1 he with he | he
        · exact HIN.out e he
        · rw [List.mem_singleton.1 he]; exact HIR.out
      clear hf hm HADD HMR HIN
      go_wp2
      go_roundw
      case rel => exact ⟨k + 1, by omega, by go_num, HN⟩
      case measure => simp [intOf]; omega
    · obtain rfl : k = l.length := by omega
      have ti : decide (l.length < l.length) = false := decide_eq_false (by omega)
      obtain ⟨⟨fv, hF⟩, hmr, hin⟩ := hD.out
      rw [List.take_length] at hF hin
      have H1 : Hid (FilmAt wr B B l fv ∧ Mod (fun _ => False) wr wr) := ⟨hF, Mod.refl _ _⟩
      have HMR := Lib.hid hmr
      have HSA := Lib.hid (sumAt_all l hin)
      have HSC := Lib.hid (sumCnt_all l hin)
      clear hF hmr hin hD hlt
      go_wp2
      go_loopw [5, 6, 7] (fun n kk p wq => ∃ q : Nat, q ≤ 10 ∧ p = .int .i64 q ∧ n = .int .i64 (sumAt l q : Nat) ∧ kk = .int .i64 (sumCnt l q : Nat) ∧ Hid (FilmAt wq B B l fv ∧ Mod (fun _ => False) wr wq)) (fun _ _ p _ => 10 - (intOf p).toNat)
      case atStart => exact ⟨0, Nat.zero_le _, rfl, rfl, rfl, H1⟩
      case round =>
        rename World => wq
        obtain ⟨q, hq, rfl, rfl, rfl, hD⟩ := hrel
        by_cases hq10 : q < 10
        · have tq : (q : Int) ≤ 9 := by omega
          have hb1 := sumAt_le l q
          have hb2 := sumCnt_le l q
          have hq60 : q * l.length ≤ 600 := Nat.mul_le_mul (show q ≤ 10 by omega) hl60
          have hsa : (sumAt l q : Int) ≤ 600 := by omega
          have hsc : (sumCnt l q : Int) ≤ 600 := by omega
          have HN1 : Hid (sumAt l (q + 1) = sumAt l q + (atL l (q : Int)).length) := rfl
          have HN2 : Hid (sumCnt l (q + 1) = sumCnt l q + cntL l (q : Int)) := rfl
          have ha := Nat.le_trans (atL_len l (q : Int)) hl60
          have hcn := Nat.le_trans (cntL_len l (q : Int)) hl60
          have hg := gotL_len (atL l (q : Int))
          have HAT : Hid (∀ W, Mod (fun _ => False) wq W → Calls Tryd.prog 10 #[.pointer (some ⟨B, 0, none⟩), .int .i64 q] W (EGave W (atL l (q : Int)))) := fun W hW => at_any B B l fv q W (hD.out.1.none hW) (by omega)
          have HCO : Hid (∀ W, Mod (fun _ => False) wq W → Calls Tryd.prog 11 #[.pointer (some ⟨B, 0, none⟩), .int .i64 q] W fun e w' => e = .returned (.int .i64 (cntL l (q : Int) : Nat)) ∧ Mod (fun _ => False) W w') := fun W hW => count_any B B l fv q W (hD.out.1.none hW) (by omega)
          have HDE : Hid (∀ W, Mod (fun _ => False) wq W → Calls Tryd.prog 12 #[.pointer (some ⟨B, 0, none⟩), .int .i64 q] W (DGave W (gotL (atL l (q : Int))))) := fun W hW => delivered_any B B l fv q W (hD.out.1.none hW) (by omega) HFIT.out
          generalize gotL (atL l (q : Int)) = G at *
          generalize atL l (q : Int) = AL at *
          generalize cntL l (q : Int) = cn at *
          have tg : decide (AL.length < G.length) = false := decide_eq_false (by omega)
          have ha' : (AL.length : Int) ≤ 60 := by omega
          have hcn' : (cn : Int) ≤ 60 := by omega
          have HA0 := Lib.hid (HAT.out wq (Mod.refl _ _))
          clear hb1 hb2 hq60 ha hcn hg
          generalize sumAt l q = sa at *
          generalize sumCnt l q = sc at *
          go_wp2_with fail
          refine HA0.out.mono ?_
          rintro z w4 ⟨v4, rfl, hr, hm, -⟩
          obtain ⟨A4, c4, rfl⟩ := RowOf.form hr
          have HM4 := Lib.hid hm
          have HC4 := Lib.hid (HCO.out w4 hm)
          clear hr hm HA0
          go_wp2_with fail
          refine HC4.out.mono ?_
          rintro z w5 ⟨rfl, hm⟩
          have HM5 : Hid (Mod (fun _ => False) wq w5) := HM4.out.trans hm
          have HD5 := Lib.hid (HDE.out w5 HM5.out)
          clear hm HC4 HM4
          go_wp2_with fail
          refine HD5.out.mono ?_
          rintro z w6 ⟨v6, rfl, hr, hm, -⟩
          obtain ⟨A6, c6, rfl⟩ := RowOf.form hr
          have HM6 : Hid (Mod (fun _ => False) wq w6) := HM5.out.trans hm
          have HA6 := Lib.hid (HAT.out w6 HM6.out)
          clear hr hm HD5 HM5
          go_wp2_with fail
          refine HA6.out.mono ?_
          rintro z w7 ⟨v7, rfl, hr, hm, -⟩
          obtain ⟨A7, c7, rfl⟩ := RowOf.form hr
          have HM7 : Hid (Mod (fun _ => False) wq w7) := HM6.out.trans hm
          have HN : Hid (FilmAt w7 B B l fv ∧ Mod (fun _ => False) wr w7) := ⟨hD.out.1.none HM7.out, hD.out.2.trans HM7.out⟩
          clear hr hm HA6 HM6 hD HAT HCO HDE
          go_wp2
          go_roundw
          case rel => exact ⟨q + 1, by omega, by go_num, by rw [HN1.out]; go_num, by rw [HN2.out]; go_num, HN⟩
          case measure => simp [intOf]; omega
        · obtain rfl : q = 10 := by omega
          have hs1 := HSA.out
          have hs2 := HSC.out
          rw [hs1, hs2]
          have HBF : Hid (Below w.heap.size w wq) := HBE.out wq (HMR.out.trans' hD.out.2 (fun _ _ h => h.elim))
          clear hs1 hs2 hD
          go_wp2
          go_ret
          exact ⟨rfl, HBF.out⟩
set_option maxRecDepth 100000 in
theorem parts_walk {H : Type} {enc : TypeId × Value → H} {b0 : Nat} {d : DataW H} {ps : List MemPlace} (W : World) (hL : Tab W) (v : Value) (hok : Value.okWide Tryd.prog W .any b0 22 v)
    (h : DataW.Trod enc Tryd.prog W 0 (fun _ => true) true 22 v d ps) : Calls Tryd.prog 3 #[v] W fun e w' => e = .returned (.bool true) ∧ Below W.heap.size W w' := by
  obtain ⟨l, hz⟩ := open_rows (C := 9) (cells := Ev.cells) (fit := Ev.Ok) Tryd.underlying22 cellsEv (by decide) ev_of hok h
  exact parts_any v l W hz hL
end Go.Proofs.YtlklbdnlpljaiaaDoor
