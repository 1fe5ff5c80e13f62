/-
  The walk of ShipOrder.
-/
import Derived.Test.YtcgfbbfepopinaaShipR
namespace Go.Proofs.Ytcgfbbfepopinaa
open Go.RowKit Go.Shoal
theorem Try.infoStr : (Try.prog.info? 9).map (fun i => (i.zero, i.size, i.bytes)) = some (some (.string ByteArray.empty), 1, 16) := by kernel_rfl
def OrdW (base B : Nat) (w1 : World) (win que k : Nat) (inl : List ByteArray) (s : Shp) (A : Option Addr) (c : Nat) (wr : World) : Prop :=
  Sails base B base w1 s [] wr ∧ Ord win que k inl s ∧ InRow base wr (.slice A inl.length c) inl
set_option maxRecDepth 100000 in
set_option maxHeartbeats 1000000 in
theorem order_out (win que : Int) (v : Value) (l : List ActS) (w : World) (hz : ActsS w v l) (h : win < 1 ∨ (1 ≤ win ∧ 16 < win) ∨ (1 ≤ win ∧ win ≤ 16 ∧ que < 2) ∨ (1 ≤ win ∧ win ≤ 16 ∧ 2 ≤ que ∧ 32 < que) ∨ (1 ≤ win ∧ win ≤ 16 ∧ 2 ≤ que ∧ que ≤ 32 ∧ 100 < l.length)) :
    Calls Try.prog 4 #[.int .i64 win, .int .i64 que, v] w fun e w' => e = .returned (.bool true) ∧ Below w.heap.size w w' := by
  obtain ⟨A, c, rfl, hl, _⟩ := hz
  unfold maxLen at hl
  have HA := Lib.hid (awake_any w)
  rcases h with h | ⟨h, h1⟩ | ⟨h, h1, h2⟩ | ⟨h, h1, h2, h3⟩ | ⟨h, h1, h2, h3, h4⟩
  all_goals
    go_enter Try.func4, Try.ntmps4
    go_wp2_with fail
    refine HA.out.mono ?_
    rintro e w1 ⟨rfl, hm⟩
    have HM := Lib.hid hm
    clear hm
    go_wp2
    go_ret
    exact ⟨rfl, HM.out⟩
set_option maxRecDepth 100000 in
set_option maxHeartbeats 8000000 in
theorem order_in (win que : Nat) (v : Value) (l : List ActS) (w : World) (hz : ActsS w v l) (h1 : 1 ≤ win) (h2 : win ≤ 16) (h3 : 2 ≤ que) (h4 : que ≤ 32) (h5 : l.length ≤ 100) :
    Calls Try.prog 4 #[.int .i64 win, .int .i64 que, v] w fun e w' => e = .returned (.bool true) ∧ Below w.heap.size w w' := by
  obtain ⟨A0, c0, rfl, hl, _, hz⟩ := hz
  obtain ⟨i0, hii, hz0', hz1', hz2'⟩ := info_parts Try.infoStr
  have HA := Lib.hid (awake_any w)
  have t1 : decide ((win : Int) < 1) = false := decide_eq_false (by omega)
  have t2 : decide (16 < (win : Int)) = false := decide_eq_false (by omega)
  have t3 : decide ((que : Int) < 2) = false := decide_eq_false (by omega)
  have t4 : decide (32 < (que : Int)) = false := decide_eq_false (by omega)
  have t5 : decide (100 < (l.length : Int)) = false := decide_eq_false (by omega)
  have HZ := Lib.hid hz
  clear hz hl
  go_enter Try.func4, Try.ntmps4
  go_wp2_with fail
  refine HA.out.mono ?_
  rintro e w1 ⟨rfl, hm⟩
  have HM := Lib.hid hm
  have HN := Lib.hid (sail_new win que 1 4 w1 h1 h2 h3 h4 (by decide) (by decide) (by decide))
  clear hm HA
  go_wp2_with fail
  refine HN.out.mono ?_
  rintro e w2 ⟨rfl, hs⟩
  have h0ok : Pc.Ok ⟨1, 4, 1, 0, 0⟩ := ⟨by decide, by decide, by decide, by decide, by decide, by decide⟩
  have H0 : Hid (OrdW w1.heap.size (w1.heap.size + 1) w1 win que 0 [] (Shp.new win que 1 4) none 0 w2) := ⟨hs, ⟨Shp.Inv.new _ _ _ _, rfl, rfl, rfl, Nat.le_refl _, Nat.le_refl _, h0ok, Int.le_refl 0, Int.le_refl 0⟩, RowOf.nil _ _ _, fun q hq => by cases hq⟩
  have HBASE : Hid (w.heap.size ≤ w1.heap.size) := HM.out.size
  clear hs HN
  generalize w1.heap.size + 1 = B at *
  generalize w1.heap.size = base at *
  go_wp2
  go_loopw [9, 10, 11] (fun iv nx i wr => ∃ (k : Nat) (inl : List ByteArray) (s : Shp) (A : Option Addr) (c : Nat), k ≤ l.length ∧ iv = .slice A inl.length c ∧ nx = .int .u64 ((s.last : Int) + 1) ∧ i = .int .i64 k ∧ Hid (OrdW base B w1 win que k inl s A c wr)) (fun _ _ i _ => l.length - (intOf i).toNat)
  case atStart => exact ⟨0, [], _, none, 0, Nat.zero_le _, rfl, rfl, rfl, H0⟩
  case round =>
    obtain ⟨k, inl, s, A, c, hk, rfl, rfl, rfl, hD⟩ := hrel
    have HBW : Hid (Below w.heap.size w wr) := by
      obtain ⟨⟨_, _, _, _, hB, _⟩, _⟩ := hD.out
      exact below_of' HM.out hB HBASE.out
    by_cases hlt : k < l.length
    · obtain ⟨b, o, rfl, hb, hc⟩ := ElemsIn.cell HZ.out HBW.out k hlt
      have hi : (k : Int) < l.length := by omega
      have hi0 : (0 : Int) ≤ (k : Int) := by omega
      obtain ⟨op, n, x, rep, hq⟩ : ∃ a b c d, l.getD k default = ActS.mk a b c d := ⟨_, _, _, _, rfl⟩
      have k0 := hc 0 (.int .i64 op) (by rw [hq]; rfl)
      have k1 := hc 1 (.int .u64 n) (by rw [hq]; rfl)
      have k2 := hc 2 (.string x) (by rw [hq]; rfl)
      have k3 := hc 3 (.bool rep) (by rw [hq]; rfl)
      rw [Nat.add_zero] at k0
      clear hc hq hb
      by_cases hsz : x.size ≤ 50
      · have tz : decide ((50 : Int) < (x.size : Int)) = false := decide_eq_false (by omega)
        obtain ⟨a1, a2, a3⟩ := hD.out
        have HWA : Hid (Mod (fun _ => False) wr (wr.alloc (.cells #[.int .i64 op, .int .u64 n, .string x, .bool rep] 43))) := (Mod.refl _ _).alloc _
        have hll : s.last ≤ 100 := by
          have := a2.last_le
          have := a2.len_le
          omega
        have hinl : inl.length ≤ 100 := by
          have := a2.len_le
          omega
        have hFit : s.Fit := a2.fit h2 h4 (by omega)
        have hwin : s.win ≤ 16 := by rw [a2.win_eq]; exact h2
        have hque : 2 ≤ s.que ∧ s.que ≤ 32 := by rw [a2.que_eq]; exact ⟨h3, h4⟩
        by_cases o0 : op = 0
        · subst o0
          obtain ⟨v1, W1, hrun, hm1, hsrc⟩ := conv_string (wr.alloc (.cells #[.int .i64 0, .int .u64 n, .string x, .bool rep] 43)) x
          have HIN1 : Hid (InRow base W1 (.slice A inl.length c) inl) := ⟨RowOf.mod a3.1 ((HWA.out).trans hm1) (fun _ _ h => h.elim), a3.2⟩
          have hblk := hm1.blk (blk_new wr (.cells #[.int .i64 0, .int .u64 n, .string x, .bool rep] 43)) (fun h => h)
          cases hroom : s.room rep
          · have HP := Lib.hid (sail_push_no' [9, 43] (a1.none' (HWA.out.trans hm1)) v1 rep hque hroom)
            have HORD := Lib.hid (a2.same)
            have f3 := (blk_cell hblk 3).trans rfl
            clear a1 a2 a3 hFit hwin hque hm1 hsrc hroom hblk h0ok
            go_wp2_with fail
            refine HP.out.mono ?_
            rintro e wX ⟨⟨rfl, hs5⟩, hk5⟩
            have HX0 : Hid (Sails base B base w1 s [] wX ∧ Ord win que (k + 1) inl s ∧ InRow base wX (.slice A inl.length c) inl) := ⟨hs5, HORD.out, HIN1.out.keepT hk5 (by decide)⟩
            clear hs5 hk5 HP hrun HORD HIN1 f3

            go_wp2
            go_loopw [10, 16] (fun nx i wq => nx = .int .u64 ((s.last : Int) + 1) ∧ i = .int .i64 0 ∧ Hid (wq = wX)) (fun _ _ _ => 0)
            case atStart => exact ⟨rfl, rfl, rfl⟩
            case round =>
              obtain ⟨rfl, rfl, hW⟩ := hrel
              have HS7 : Hid (Sails base B base w1 s [] wr) := by rw [hW.out]; exact HX0.out.1
              have HR7 : Hid (InRow base wr (.slice A inl.length c) inl) := by rw [hW.out]; exact HX0.out.2.2
              have y2 := HX0.out.2.1
              have hbd : s.last ≤ 101 := by
                have := y2.last_le
                have := y2.len_le
                omega
              have hil : inl.length ≤ 101 := by
                have := y2.len_le
                omega
              have HO := Lib.hid y2
              have hF : Hid s.Fit := y2.fit h2 h4 (by omega)
              obtain ⟨z1, z2, z3⟩ := y2.lens
              have q1 : decide (win < s.out.length) = false := decide_eq_false (by omega)
              have q2 : decide (que < s.waits.length) = false := decide_eq_false (by omega)
              have q1n : s.out.length ≤ win := by omega
              have q2n : s.waits.length ≤ que := by omega
              have hw1 : (s.last : Int) + 1 - 1 = s.last := by omega
              have q3 : ((s.last : Int) != (s.last : Int)) = false := by simp
              have q3' : ((s.last : Int) != ((s.last : Int) + 1 - 1)) = false := by rw [hw1]; simp
              have q4' : (((s.last : Int) + 1 - 1 + (s.waits.length : Int)) != (inl.length : Int)) = false := by
                rw [show ((s.last : Int) + 1 - 1 + (s.waits.length : Int)) = (inl.length : Int) by omega]
                simp
              have q4 : (((s.last : Int) + (s.waits.length : Int)) != (inl.length : Int)) = false := by
                rw [show ((s.last : Int) + (s.waits.length : Int)) = (inl.length : Int) by omega]
                simp
              have hl9 : (s.last : Int) < 102 := by omega
              have hl0 : (0 : Int) ≤ (s.last : Int) := Int.natCast_nonneg _
              have hwt9 : (s.waits.length : Int) < 102 := by omega
              have hwt0 : (0 : Int) ≤ (s.waits.length : Int) := by omega
              clear z1 z2 z3 y2
              have HC1 := Lib.hid (sail_out' [9] HS7.out hF.out)
              go_wp2_with fail
              refine HC1.out.mono ?_
              rintro e u1 ⟨⟨A1, c1, rfl, hs1⟩, hk1⟩
              have HR8 := Lib.hid (HR7.out.keepT hk1 (by decide))
              have HC2 := Lib.hid (sail_waits' [9] (hs1.less (rs' := []) (fun r hr => by cases hr)) hF.out)
              clear hs1 hk1 HC1
              go_wp2_with fail
              refine HC2.out.mono ?_
              rintro e u2 ⟨⟨A2, c2, rfl, hs2⟩, hk2⟩
              have HR9 := Lib.hid (HR8.out.keepT hk2 (by decide))
              have HC3 := Lib.hid (sail_last hs2)
              have HS9 := Lib.hid hs2
              clear hs2 hk2 HC2
              go_wp2_with fail
              refine HC3.out.mono ?_
              rintro e u3 ⟨rfl, rfl⟩
              have HC4 := Lib.hid (sail_waits' [9] HS9.out hF.out)
              clear HC3
              go_wp2_with fail
              refine HC4.out.mono ?_
              rintro e u4 ⟨⟨A4, c4, rfl, hs4⟩, hk4⟩
              have HE : Hid (OrdW base B w1 win que (k + 1) inl s A c u4) := ⟨hs4, HO.out, HR9.out.keepT hk4 (by decide)⟩
              clear hs4 hk4 HC4
              go_wp2
              go_roundw
              case rel => exact ⟨k + 1, inl, s, A, c, by omega, rfl, by go_num, by go_num, HE⟩
              case measure => simp [intOf]; omega
          · have hrl : s.waits.length < s.que := by
              cases rep
              · have h9 : decide (s.waits.length + 1 < s.que) = true := hroom
                have := of_decide_eq_true h9
                omega
              · have h9 : decide (s.waits.length < s.que) = true := hroom
                exact of_decide_eq_true h9
            have HP := Lib.hid (sail_push' [9, 43] (a1.none' (HWA.out.trans hm1)) (by decide) v1 rep x hFit hque hwin hroom hsrc (by omega))
            have HORD := Lib.hid (a2.put hsz hrl)
            have f3 := (blk_cell hblk 3).trans rfl
            have HBLK := Lib.hid hblk
            clear a1 a2 a3 hFit hwin hque hm1 hsrc hroom hblk h0ok hrl
            go_wp2_with fail
            refine HP.out.mono ?_
            rintro e w5 ⟨⟨Ao, co, rfl, hs5⟩, hk5⟩
            have HIN5 := Lib.hid (HIN1.out.keepT hk5 (by decide))
            have f2 := (blk_cell (hk5 _ _ _ (by decide) HBLK.out) 2).trans rfl
            have HS5 := Lib.hid hs5
            clear hs5 hk5 HP hrun HIN1 HBLK f3
            go_wp2_with (at_builtin; refine wpList_append_row (by rfl) _ _ 22 (by rfl) i0 (.string ByteArray.empty) 16 Try.underlying22 hii hz0' hz1' hz2' (by rfl) (by omega) (by rfl) (RowOf.alloc HIN5.out.1 _) (in_one _) _ 1 [.string x] (by rfl) (SrcOk.block (blk_new w5 _) rfl (fun j u hu => by rw [Nat.zero_add]; simpa using hu) (by simp [Value.oneCell'])) (by unfold maxLen; omega) (by omega) ?_)
            intro v9 w9 hrow hgrow hat
            obtain ⟨A9, c9, rfl⟩ := RowOf.form hrow
            have HX : Hid (∃ s', Sails base B base w1 s' [(.slice Ao (s.put x).news.length co, (s.put x).news)] w9 ∧ Ord win que (k + 1) (inl ++ [x]) s' ∧ s'.last = s.last + (s.put x).news.length ∧ News (inl ++ [x]) s.last (s.put x).news ∧ InRow base w9 (.slice A9 (inl ++ [x]).length c9) (inl ++ [x])) := by
              have hs6 := HS5.out.none' (mod_new w5 (.cells #[.string x] 9))
              have hz6 := hs6.size
              have hro : ∀ q, (Value.slice A9 (inl.length + 1) c9).ownBlock = some q → base ≤ q := fun q hq => by
                rcases hat with e | e
                · rw [e] at hq
                  exact HIN5.out.2 q hq
                · rw [e] at hq
                  cases hq
                  simpa using hz6
              refine ⟨_, hs6.grown hgrow (fun q hq => ⟨HIN5.out.2 q hq, ?_⟩), HORD.out.1, HORD.out.2.1, HORD.out.2.2, ?_, ?_⟩
              · obtain ⟨cur, hc⟩ := RowOf.block (RowOf.alloc HIN5.out.1 _) hq
                exact .inr ⟨cur, _, hc, by decide⟩
              · show RowOf w9 9 1 (.slice A9 (inl ++ [x]).length c9) (inl ++ [x]).length ((inl ++ [x]).map Value.string)
                rw [List.length_append, List.map_append]
                exact hrow
              · rw [List.length_append]
                exact hro
            have hlen : inl.length + 1 = (inl ++ [x]).length := by simp
            rw [hlen]
            clear hrow hgrow hat HS5 HIN5 HORD f2 hlen hinl hD
            generalize inl ++ [x] = inl2 at *
            generalize (s.put x).news = news at *

            go_wp2
            go_loopw [10, 16] (fun nx i wr => ∃ j p : Nat, j ≤ news.length ∧ p = s.last + j ∧ nx = .int .u64 ((p : Int) + 1) ∧ i = .int .i64 j ∧ Hid (∃ m, wr = w9.drewN m)) (fun _ i _ => news.length - (intOf i).toNat)
            case atStart => exact ⟨0, s.last, Nat.zero_le _, rfl, rfl, rfl, ⟨0, rfl⟩⟩
            case round =>
              obtain ⟨j, p, hj, hp, rfl, rfl, hW⟩ := hrel
              obtain ⟨s', y1, y2, y3, y4, y5⟩ := HX.out
              have hbd : s.last + news.length ≤ 101 := by
                have := y2.last_le
                have := y2.len_le
                omega
              have hil : inl2.length ≤ 101 := by
                have := y2.len_le
                omega
              by_cases hjn : j < news.length
              · obtain ⟨x, hx⟩ : ∃ x, news[j]? = some x := ⟨_, List.getElem?_eq_getElem hjn⟩
                obtain ⟨m, hm⟩ := hW.out
                obtain ⟨Ng, hIg⟩ := y1.safe (r := (.slice Ao news.length co, news)) List.mem_cons_self
                have hIg' : ItemsAt Ng wr (.slice Ao news.length co) news := by rw [hm]; exact hIg
                obtain ⟨b1, o1, B1, cb1, hA1, e0, e1, hc1⟩ := hIg'.elem hx
                obtain ⟨hnum, hin⟩ := y4 j x hx
                have hrw : InRow base wr (.slice A9 inl2.length c9) inl2 := by rw [hm]; exact y5
                obtain ⟨b2, o2, hA2, e3⟩ := hrw.cell hin
                have hpl : p < inl2.length := by
                  have := (List.getElem?_eq_some_iff.1 hin).1
                  omega
                rw [hnum, ← hp] at e0
                rw [← hp] at e3
                have e0' : wr.cell? ⟨b1, o1 + j * 2, none⟩ = some (.int .u64 ((p : Int) + 1)) := e0
                subst hA1
                subst hA2
                have hi : (j : Int) < news.length := by omega
                have hi0 : (0 : Int) ≤ (j : Int) := by omega
                have hp1 : (p : Int) < inl2.length := by omega
                have hp0 : (0 : Int) ≤ (p : Int) := by omega
                have hj9 : (j : Int) < 101 := by omega
                have hp9 : (p : Int) < 101 := by omega
                have q1 : (((p : Int) + 1) != ((p : Int) + 1)) = false := by simp
                have q2 : decide ((inl2.length : Int) < (p : Int) + 1) = false := decide_eq_false (by omega)
                have hw1 : (p : Int) + 1 - 1 = p := by omega
                have HW : Hid (∀ q, ∃ m, wr.drewN q = w9.drewN m) := fun q => ⟨m + q, by rw [hm, World.drewN_drewN]⟩
                have HPJ := Lib.hid hp
                clear hp e0 hx hm hIg hIg' hnum hin hrw y1 y2 y3 y4 y5
                go_wp2_with fail
                go_quiet (fail)
                go_wp2
                go_roundw
                case rel => exact ⟨j + 1, p + 1, by omega, by have := HPJ.out; omega, by go_num, by go_num, HW.out _⟩
                case measure => simp [intOf]; omega
              · obtain rfl : j = news.length := by omega
                have HS7 : Hid (Sails base B base w1 s' [] wr) := by
                  obtain ⟨m, hm⟩ := hW.out
                  rw [hm]
                  exact (y1.less (fun r hr => by cases hr)).none' ((Mod.refl _ _).drewN m)
                have HR7 : Hid (InRow base wr (.slice A9 inl2.length c9) inl2) := by
                  obtain ⟨m, hm⟩ := hW.out
                  rw [hm]
                  exact y5
                have hps : p = s'.last := by omega
                clear hp y1 y3 y4 y5
                subst hps
                have HO := Lib.hid y2
                have hF : Hid s'.Fit := y2.fit h2 h4 (by omega)
                obtain ⟨z1, z2, z3⟩ := y2.lens
                have q1 : decide (win < s'.out.length) = false := decide_eq_false (by omega)
                have q2 : decide (que < s'.waits.length) = false := decide_eq_false (by omega)
                have q1n : s'.out.length ≤ win := by omega
                have q2n : s'.waits.length ≤ que := by omega
                have hw1 : (s'.last : Int) + 1 - 1 = s'.last := by omega
                have q3 : ((s'.last : Int) != (s'.last : Int)) = false := by simp
                have q3' : ((s'.last : Int) != ((s'.last : Int) + 1 - 1)) = false := by rw [hw1]; simp
                have q4' : (((s'.last : Int) + 1 - 1 + (s'.waits.length : Int)) != (inl2.length : Int)) = false := by
                  rw [show ((s'.last : Int) + 1 - 1 + (s'.waits.length : Int)) = (inl2.length : Int) by omega]
                  simp
                have q4 : (((s'.last : Int) + (s'.waits.length : Int)) != (inl2.length : Int)) = false := by
                  rw [show ((s'.last : Int) + (s'.waits.length : Int)) = (inl2.length : Int) by omega]
                  simp
                have hl9 : (s'.last : Int) < 102 := by omega
                have hl0 : (0 : Int) ≤ (s'.last : Int) := Int.natCast_nonneg _
                have hwt9 : (s'.waits.length : Int) < 102 := by omega
                have hwt0 : (0 : Int) ≤ (s'.waits.length : Int) := by omega
                clear z1 z2 z3 y2
                have HC1 := Lib.hid (sail_out' [9] HS7.out hF.out)
                go_wp2_with fail
                refine HC1.out.mono ?_
                rintro e u1 ⟨⟨A1, c1, rfl, hs1⟩, hk1⟩
                have HR8 := Lib.hid (HR7.out.keepT hk1 (by decide))
                have HC2 := Lib.hid (sail_waits' [9] (hs1.less (rs' := []) (fun r hr => by cases hr)) hF.out)
                clear hs1 hk1 HC1
                go_wp2_with fail
                refine HC2.out.mono ?_
                rintro e u2 ⟨⟨A2, c2, rfl, hs2⟩, hk2⟩
                have HR9 := Lib.hid (HR8.out.keepT hk2 (by decide))
                have HC3 := Lib.hid (sail_last hs2)
                have HS9 := Lib.hid hs2
                clear hs2 hk2 HC2
                go_wp2_with fail
                refine HC3.out.mono ?_
                rintro e u3 ⟨rfl, rfl⟩
                have HC4 := Lib.hid (sail_waits' [9] HS9.out hF.out)
                clear HC3
                go_wp2_with fail
                refine HC4.out.mono ?_
                rintro e u4 ⟨⟨A4, c4, rfl, hs4⟩, hk4⟩
                have HE : Hid (OrdW base B w1 win que (k + 1) inl2 s' A9 c9 u4) := ⟨hs4, HO.out, HR9.out.keepT hk4 (by decide)⟩
                clear hs4 hk4 HC4
                go_wp2
                go_roundw
                case rel => exact ⟨k + 1, inl2, s', A9, c9, by omega, rfl, by go_num, by go_num, HE⟩
                case measure => simp [intOf]; omega
        · have HIN1 : Hid (InRow base (wr.alloc (.cells #[.int .i64 op, .int .u64 n, .string x, .bool rep] 43)) (.slice A inl.length c) inl) := ⟨RowOf.alloc a3.1 _, a3.2⟩
          by_cases o1 : op = 1
          · subst o1
            by_cases hh : s.hears n
            · have HP := Lib.hid (sail_ack' [9, 43] (a1.none' HWA.out) (by decide) n hFit hwin hh)
              have HORD := Lib.hid (a2.ack n)
              clear a1 a2 a3 hFit hwin hque h0ok hh
              go_wp2_with fail
              refine HP.out.mono ?_
              rintro e w9 ⟨⟨Ao, co, rfl, hs5⟩, hk5⟩
              have HX : Hid (∃ s', Sails base B base w1 s' [(.slice Ao (s.acked n).news.length co, (s.acked n).news)] w9 ∧ Ord win que (k + 1) inl s' ∧ s'.last = s.last + (s.acked n).news.length ∧ News inl s.last (s.acked n).news ∧ InRow base w9 (.slice A inl.length c) inl) := ⟨_, hs5, HORD.out.1, HORD.out.2.1, HORD.out.2.2, HIN1.out.keepT hk5 (by decide)⟩
              clear hs5 hk5 HP HIN1 HORD hinl hD
              generalize (s.acked n).news = news at *

              go_wp2
              go_loopw [10, 16] (fun nx i wr => ∃ j p : Nat, j ≤ news.length ∧ p = s.last + j ∧ nx = .int .u64 ((p : Int) + 1) ∧ i = .int .i64 j ∧ Hid (∃ m, wr = w9.drewN m)) (fun _ i _ => news.length - (intOf i).toNat)
              case atStart => exact ⟨0, s.last, Nat.zero_le _, rfl, rfl, rfl, ⟨0, rfl⟩⟩
              case round =>
                obtain ⟨j, p, hj, hp, rfl, rfl, hW⟩ := hrel
                obtain ⟨s', y1, y2, y3, y4, y5⟩ := HX.out
                have hbd : s.last + news.length ≤ 101 := by
                  have := y2.last_le
                  have := y2.len_le
                  omega
                have hil : inl.length ≤ 101 := by
                  have := y2.len_le
                  omega
                by_cases hjn : j < news.length
                · obtain ⟨x, hx⟩ : ∃ x, news[j]? = some x := ⟨_, List.getElem?_eq_getElem hjn⟩
                  obtain ⟨m, hm⟩ := hW.out
                  obtain ⟨Ng, hIg⟩ := y1.safe (r := (.slice Ao news.length co, news)) List.mem_cons_self
                  have hIg' : ItemsAt Ng wr (.slice Ao news.length co) news := by rw [hm]; exact hIg
                  obtain ⟨b1, o1, B1, cb1, hA1, e0, e1, hc1⟩ := hIg'.elem hx
                  obtain ⟨hnum, hin⟩ := y4 j x hx
                  have hrw : InRow base wr (.slice A inl.length c) inl := by rw [hm]; exact y5
                  obtain ⟨b2, o2, hA2, e3⟩ := hrw.cell hin
                  have hpl : p < inl.length := by
                    have := (List.getElem?_eq_some_iff.1 hin).1
                    omega
                  rw [hnum, ← hp] at e0
                  rw [← hp] at e3
                  have e0' : wr.cell? ⟨b1, o1 + j * 2, none⟩ = some (.int .u64 ((p : Int) + 1)) := e0
                  subst hA1
                  subst hA2
                  have hi : (j : Int) < news.length := by omega
                  have hi0 : (0 : Int) ≤ (j : Int) := by omega
                  have hp1 : (p : Int) < inl.length := by omega
                  have hp0 : (0 : Int) ≤ (p : Int) := by omega
                  have hj9 : (j : Int) < 101 := by omega
                  have hp9 : (p : Int) < 101 := by omega
                  have q1 : (((p : Int) + 1) != ((p : Int) + 1)) = false := by simp
                  have q2 : decide ((inl.length : Int) < (p : Int) + 1) = false := decide_eq_false (by omega)
                  have hw1 : (p : Int) + 1 - 1 = p := by omega
                  have HW : Hid (∀ q, ∃ m, wr.drewN q = w9.drewN m) := fun q => ⟨m + q, by rw [hm, World.drewN_drewN]⟩
                  have HPJ := Lib.hid hp
                  clear hp e0 hx hm hIg hIg' hnum hin hrw y1 y2 y3 y4 y5
                  go_wp2_with fail
                  go_quiet (fail)
                  go_wp2
                  go_roundw
                  case rel => exact ⟨j + 1, p + 1, by omega, by have := HPJ.out; omega, by go_num, by go_num, HW.out _⟩
                  case measure => simp [intOf]; omega
                · obtain rfl : j = news.length := by omega
                  have HS7 : Hid (Sails base B base w1 s' [] wr) := by
                    obtain ⟨m, hm⟩ := hW.out
                    rw [hm]
                    exact (y1.less (fun r hr => by cases hr)).none' ((Mod.refl _ _).drewN m)
                  have HR7 : Hid (InRow base wr (.slice A inl.length c) inl) := by
                    obtain ⟨m, hm⟩ := hW.out
                    rw [hm]
                    exact y5
                  have hps : p = s'.last := by omega
                  clear hp y1 y3 y4 y5
                  subst hps
                  have HO := Lib.hid y2
                  have hF : Hid s'.Fit := y2.fit h2 h4 (by omega)
                  obtain ⟨z1, z2, z3⟩ := y2.lens
                  have q1 : decide (win < s'.out.length) = false := decide_eq_false (by omega)
                  have q2 : decide (que < s'.waits.length) = false := decide_eq_false (by omega)
                  have q1n : s'.out.length ≤ win := by omega
                  have q2n : s'.waits.length ≤ que := by omega
                  have hw1 : (s'.last : Int) + 1 - 1 = s'.last := by omega
                  have q3 : ((s'.last : Int) != (s'.last : Int)) = false := by simp
                  have q3' : ((s'.last : Int) != ((s'.last : Int) + 1 - 1)) = false := by rw [hw1]; simp
                  have q4' : (((s'.last : Int) + 1 - 1 + (s'.waits.length : Int)) != (inl.length : Int)) = false := by
                    rw [show ((s'.last : Int) + 1 - 1 + (s'.waits.length : Int)) = (inl.length : Int) by omega]
                    simp
                  have q4 : (((s'.last : Int) + (s'.waits.length : Int)) != (inl.length : Int)) = false := by
                    rw [show ((s'.last : Int) + (s'.waits.length : Int)) = (inl.length : Int) by omega]
                    simp
                  have hl9 : (s'.last : Int) < 102 := by omega
                  have hl0 : (0 : Int) ≤ (s'.last : Int) := Int.natCast_nonneg _
                  have hwt9 : (s'.waits.length : Int) < 102 := by omega
                  have hwt0 : (0 : Int) ≤ (s'.waits.length : Int) := by omega
                  clear z1 z2 z3 y2
                  have HC1 := Lib.hid (sail_out' [9] HS7.out hF.out)
                  go_wp2_with fail
                  refine HC1.out.mono ?_
                  rintro e u1 ⟨⟨A1, c1, rfl, hs1⟩, hk1⟩
                  have HR8 := Lib.hid (HR7.out.keepT hk1 (by decide))
                  have HC2 := Lib.hid (sail_waits' [9] (hs1.less (rs' := []) (fun r hr => by cases hr)) hF.out)
                  clear hs1 hk1 HC1
                  go_wp2_with fail
                  refine HC2.out.mono ?_
                  rintro e u2 ⟨⟨A2, c2, rfl, hs2⟩, hk2⟩
                  have HR9 := Lib.hid (HR8.out.keepT hk2 (by decide))
                  have HC3 := Lib.hid (sail_last hs2)
                  have HS9 := Lib.hid hs2
                  clear hs2 hk2 HC2
                  go_wp2_with fail
                  refine HC3.out.mono ?_
                  rintro e u3 ⟨rfl, rfl⟩
                  have HC4 := Lib.hid (sail_waits' [9] HS9.out hF.out)
                  clear HC3
                  go_wp2_with fail
                  refine HC4.out.mono ?_
                  rintro e u4 ⟨⟨A4, c4, rfl, hs4⟩, hk4⟩
                  have HE : Hid (OrdW base B w1 win que (k + 1) inl s' A c u4) := ⟨hs4, HO.out, HR9.out.keepT hk4 (by decide)⟩
                  clear hs4 hk4 HC4
                  go_wp2
                  go_roundw
                  case rel => exact ⟨k + 1, inl, s', A, c, by omega, rfl, by go_num, by go_num, HE⟩
                  case measure => simp [intOf]; omega
            · have hn : s.out = [] ∨ ∃ x r, s.out = x :: r ∧ (n < x.num ∨ s.last < n) := by
                cases ho : s.out with
                | nil => exact .inl rfl
                | cons y r =>
                  refine .inr ⟨y, r, rfl, ?_⟩
                  by_cases hy : y.num ≤ n ∧ n ≤ s.last
                  · exact (hh ⟨y, r, ho, hy.1, hy.2⟩).elim
                  · omega
              have HP := Lib.hid (sail_ack_no' [9, 43] (a1.none' HWA.out) n hn)
              have HORD := Lib.hid (a2.same)
              clear a1 a2 a3 hFit hwin hque h0ok hh hn
              go_wp2_with fail
              refine HP.out.mono ?_
              rintro e w9 ⟨⟨rfl, hs5⟩, hk5⟩
              have HX0 : Hid (Sails base B base w1 s [] w9 ∧ Ord win que (k + 1) inl s ∧ InRow base w9 (.slice A inl.length c) inl) := ⟨hs5, HORD.out, HIN1.out.keepT hk5 (by decide)⟩
              clear hs5 hk5 HP HIN1 HORD hinl hD

              go_wp2
              go_loopw [10, 16] (fun nx i wq => nx = .int .u64 ((s.last : Int) + 1) ∧ i = .int .i64 0 ∧ Hid (wq = w9)) (fun _ _ _ => 0)
              case atStart => exact ⟨rfl, rfl, rfl⟩
              case round =>
                obtain ⟨rfl, rfl, hW⟩ := hrel
                have HS7 : Hid (Sails base B base w1 s [] wr) := by rw [hW.out]; exact HX0.out.1
                have HR7 : Hid (InRow base wr (.slice A inl.length c) inl) := by rw [hW.out]; exact HX0.out.2.2
                have y2 := HX0.out.2.1
                have hbd : s.last ≤ 101 := by
                  have := y2.last_le
                  have := y2.len_le
                  omega
                have hil : inl.length ≤ 101 := by
                  have := y2.len_le
                  omega
                have HO := Lib.hid y2
                have hF : Hid s.Fit := y2.fit h2 h4 (by omega)
                obtain ⟨z1, z2, z3⟩ := y2.lens
                have q1 : decide (win < s.out.length) = false := decide_eq_false (by omega)
                have q2 : decide (que < s.waits.length) = false := decide_eq_false (by omega)
                have q1n : s.out.length ≤ win := by omega
                have q2n : s.waits.length ≤ que := by omega
                have hw1 : (s.last : Int) + 1 - 1 = s.last := by omega
                have q3 : ((s.last : Int) != (s.last : Int)) = false := by simp
                have q3' : ((s.last : Int) != ((s.last : Int) + 1 - 1)) = false := by rw [hw1]; simp
                have q4' : (((s.last : Int) + 1 - 1 + (s.waits.length : Int)) != (inl.length : Int)) = false := by
                  rw [show ((s.last : Int) + 1 - 1 + (s.waits.length : Int)) = (inl.length : Int) by omega]
                  simp
                have q4 : (((s.last : Int) + (s.waits.length : Int)) != (inl.length : Int)) = false := by
                  rw [show ((s.last : Int) + (s.waits.length : Int)) = (inl.length : Int) by omega]
                  simp
                have hl9 : (s.last : Int) < 102 := by omega
                have hl0 : (0 : Int) ≤ (s.last : Int) := Int.natCast_nonneg _
                have hwt9 : (s.waits.length : Int) < 102 := by omega
                have hwt0 : (0 : Int) ≤ (s.waits.length : Int) := by omega
                clear z1 z2 z3 y2
                have HC1 := Lib.hid (sail_out' [9] HS7.out hF.out)
                go_wp2_with fail
                refine HC1.out.mono ?_
                rintro e u1 ⟨⟨A1, c1, rfl, hs1⟩, hk1⟩
                have HR8 := Lib.hid (HR7.out.keepT hk1 (by decide))
                have HC2 := Lib.hid (sail_waits' [9] (hs1.less (rs' := []) (fun r hr => by cases hr)) hF.out)
                clear hs1 hk1 HC1
                go_wp2_with fail
                refine HC2.out.mono ?_
                rintro e u2 ⟨⟨A2, c2, rfl, hs2⟩, hk2⟩
                have HR9 := Lib.hid (HR8.out.keepT hk2 (by decide))
                have HC3 := Lib.hid (sail_last hs2)
                have HS9 := Lib.hid hs2
                clear hs2 hk2 HC2
                go_wp2_with fail
                refine HC3.out.mono ?_
                rintro e u3 ⟨rfl, rfl⟩
                have HC4 := Lib.hid (sail_waits' [9] HS9.out hF.out)
                clear HC3
                go_wp2_with fail
                refine HC4.out.mono ?_
                rintro e u4 ⟨⟨A4, c4, rfl, hs4⟩, hk4⟩
                have HE : Hid (OrdW base B w1 win que (k + 1) inl s A c u4) := ⟨hs4, HO.out, HR9.out.keepT hk4 (by decide)⟩
                clear hs4 hk4 HC4
                go_wp2
                go_roundw
                case rel => exact ⟨k + 1, inl, s, A, c, by omega, rfl, by go_num, by go_num, HE⟩
                case measure => simp [intOf]; omega
          · have HP := Lib.hid (sail_tick' [9, 43] (a1.none' HWA.out) (by decide) hFit a2.ok ⟨a2.r0, by have := a2.r1; omega⟩)
            have HORD := Lib.hid (a2.tick)
            have HTL : Hid ((if s.p.tick.2 = true then s.out else []).length ≤ 16 ∧ ∀ y ∈ (if s.p.tick.2 = true then s.out else []), y.num ≤ s.last) := by
              split
              · exact ⟨hFit.1, a2.inv.nums⟩
              · exact ⟨Nat.zero_le _, fun y hy => by cases hy⟩
            have q0 : (op == 0) = false := beq_eq_false_iff_ne.2 o0
            have q1 : (op == 1) = false := beq_eq_false_iff_ne.2 o1
            clear a1 a2 a3 hFit hwin hque h0ok
            generalize (if s.p.tick.2 = true then s.out else []) = told at *
            have hsl : s.last = ({ s with p := s.p.tick.1 } : Shp).last := rfl
            generalize ({ s with p := s.p.tick.1 } : Shp) = s' at *
            rw [hsl] at HTL hll
            rw [hsl]
            clear hsl
            go_wp2_with fail
            refine HP.out.mono ?_
            rintro e w9 ⟨⟨Ao, co, rfl, hs5⟩, hk5⟩
            have HS5 := Lib.hid hs5
            have HI5 := Lib.hid (HIN1.out.keepT hk5 (by decide))
            clear hs5 hk5 HP HIN1 hD q0 q1 o0 o1
            go_wp2
            go_loopw [15] (fun i wq => ∃ j : Nat, j ≤ told.length ∧ i = .int .i64 j ∧ Hid (∃ m, wq = w9.drewN m)) (fun i _ => told.length - (intOf i).toNat)
            case atStart => exact ⟨0, Nat.zero_le _, rfl, ⟨0, rfl⟩⟩
            case round =>
              obtain ⟨j, hj, rfl, hW⟩ := hrel
              obtain ⟨htl, hnm⟩ := HTL.out
              by_cases hjn : j < told.length
              · obtain ⟨y, hy⟩ : ∃ y, told[j]? = some y := ⟨_, List.getElem?_eq_getElem hjn⟩
                obtain ⟨m, hm⟩ := hW.out
                obtain ⟨Ng, hIg⟩ := HS5.out.safe (r := (.slice Ao told.length co, told)) List.mem_cons_self
                have hIg' : ItemsAt Ng wr (.slice Ao told.length co) told := by rw [hm]; exact hIg
                obtain ⟨b1, o1, B1, cb1, hA1, e0, e1, hc1⟩ := hIg'.elem hy
                have hyn := hnm y (List.mem_of_getElem? hy)
                subst hA1
                have hi : (j : Int) < told.length := by omega
                have hi0 : (0 : Int) ≤ (j : Int) := by omega
                have hj9 : (j : Int) < 17 := by omega
                have q1 : decide ((s'.last : Int) + 1 ≤ (y.num : Int)) = false := decide_eq_false (by omega)
                have HW : Hid (∀ q, ∃ m, wr.drewN q = w9.drewN m) := fun q => ⟨m + q, by rw [hm, World.drewN_drewN]⟩
                clear hy hm hIg hIg' hyn hnm
                go_wp2
                go_roundw
                case rel => exact ⟨j + 1, by omega, by go_num, HW.out 0⟩
                case measure => simp [intOf]; omega
              · have ti : decide (j < told.length) = false := decide_eq_false hjn
                have HX0 : Hid (Sails base B base w1 s' [] wr ∧ Ord win que (k + 1) inl s' ∧ InRow base wr (.slice A inl.length c) inl) := by
                  obtain ⟨m, hm⟩ := hW.out
                  rw [hm]
                  exact ⟨(HS5.out.less (fun r hr => by cases hr)).none' ((Mod.refl _ _).drewN m), HORD.out, RowOf.mod HI5.out.1 ((Mod.refl (fun _ => False) _).drewN m) (fun _ _ h => h.elim), HI5.out.2⟩
                clear hnm HS5 HI5 HORD HTL hjn hj

                go_wp2
                go_loopw [10, 16] (fun nx i wq => nx = .int .u64 ((s'.last : Int) + 1) ∧ i = .int .i64 0 ∧ Hid (wq = wr)) (fun _ _ _ => 0)
                case atStart => exact ⟨rfl, rfl, rfl⟩
                case round =>
                  obtain ⟨rfl, rfl, hW⟩ := hrel
                  have HS7 : Hid (Sails base B base w1 s' [] wr) := by rw [hW.out]; exact HX0.out.1
                  have HR7 : Hid (InRow base wr (.slice A inl.length c) inl) := by rw [hW.out]; exact HX0.out.2.2
                  have y2 := HX0.out.2.1
                  have hbd : s'.last ≤ 101 := by
                    have := y2.last_le
                    have := y2.len_le
                    omega
                  have hil : inl.length ≤ 101 := by
                    have := y2.len_le
                    omega
                  have HO := Lib.hid y2
                  have hF : Hid s'.Fit := y2.fit h2 h4 (by omega)
                  obtain ⟨z1, z2, z3⟩ := y2.lens
                  have q1 : decide (win < s'.out.length) = false := decide_eq_false (by omega)
                  have q2 : decide (que < s'.waits.length) = false := decide_eq_false (by omega)
                  have q1n : s'.out.length ≤ win := by omega
                  have q2n : s'.waits.length ≤ que := by omega
                  have hw1 : (s'.last : Int) + 1 - 1 = s'.last := by omega
                  have q3 : ((s'.last : Int) != (s'.last : Int)) = false := by simp
                  have q3' : ((s'.last : Int) != ((s'.last : Int) + 1 - 1)) = false := by rw [hw1]; simp
                  have q4' : (((s'.last : Int) + 1 - 1 + (s'.waits.length : Int)) != (inl.length : Int)) = false := by
                    rw [show ((s'.last : Int) + 1 - 1 + (s'.waits.length : Int)) = (inl.length : Int) by omega]
                    simp
                  have q4 : (((s'.last : Int) + (s'.waits.length : Int)) != (inl.length : Int)) = false := by
                    rw [show ((s'.last : Int) + (s'.waits.length : Int)) = (inl.length : Int) by omega]
                    simp
                  have hl9 : (s'.last : Int) < 102 := by omega
                  have hl0 : (0 : Int) ≤ (s'.last : Int) := Int.natCast_nonneg _
                  have hwt9 : (s'.waits.length : Int) < 102 := by omega
                  have hwt0 : (0 : Int) ≤ (s'.waits.length : Int) := by omega
                  clear z1 z2 z3 y2
                  have HC1 := Lib.hid (sail_out' [9] HS7.out hF.out)
                  go_wp2_with fail
                  refine HC1.out.mono ?_
                  rintro e u1 ⟨⟨A1, c1, rfl, hs1⟩, hk1⟩
                  have HR8 := Lib.hid (HR7.out.keepT hk1 (by decide))
                  have HC2 := Lib.hid (sail_waits' [9] (hs1.less (rs' := []) (fun r hr => by cases hr)) hF.out)
                  clear hs1 hk1 HC1
                  go_wp2_with fail
                  refine HC2.out.mono ?_
                  rintro e u2 ⟨⟨A2, c2, rfl, hs2⟩, hk2⟩
                  have HR9 := Lib.hid (HR8.out.keepT hk2 (by decide))
                  have HC3 := Lib.hid (sail_last hs2)
                  have HS9 := Lib.hid hs2
                  clear hs2 hk2 HC2
                  go_wp2_with fail
                  refine HC3.out.mono ?_
                  rintro e u3 ⟨rfl, rfl⟩
                  have HC4 := Lib.hid (sail_waits' [9] HS9.out hF.out)
                  clear HC3
                  go_wp2_with fail
                  refine HC4.out.mono ?_
                  rintro e u4 ⟨⟨A4, c4, rfl, hs4⟩, hk4⟩
                  have HE : Hid (OrdW base B w1 win que (k + 1) inl s' A c u4) := ⟨hs4, HO.out, HR9.out.keepT hk4 (by decide)⟩
                  clear hs4 hk4 HC4
                  go_wp2
                  go_roundw
                  case rel => exact ⟨k + 1, inl, s', A, c, by omega, rfl, by go_num, by go_num, HE⟩
                  case measure => simp [intOf]; omega
      · have tz : decide ((50 : Int) < (x.size : Int)) = true := decide_eq_true (by omega)
        clear hsz
        go_wp2
        go_ret
        exact ⟨rfl, HBW.out.alloc HBW.out.size _⟩
    · obtain rfl : k = l.length := by omega
      have ti : decide (l.length < l.length) = false := decide_eq_false (by omega)
      go_wp2
      go_ret
      exact ⟨rfl, HBW.out⟩
end Go.Proofs.Ytcgfbbfepopinaa
