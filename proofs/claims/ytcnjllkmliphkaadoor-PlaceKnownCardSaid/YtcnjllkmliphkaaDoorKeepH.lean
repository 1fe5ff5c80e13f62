/-
  The walk of PlaceKeepers.
-/
import Derived.Test.YtcnjllkmliphkaaDoorKeepG
namespace Go.Proofs.YtcnjllkmliphkaaDoor
open Go.RowKit Go.Shoal

set_option maxHeartbeats 2000000 in
theorem kp_long (c : Cf) (v : Value) (x : Int) (w : World) (h : SetsIn w v c.vars) (hl : 30 < c.vars.length) :
    Calls Tryd.prog 5 #[c.val v, .int .i64 x] w fun d w' => d = .returned (.bool true) ∧ Mod (fun _ => False) w w' := by
  obtain ⟨n, l, wi, q, f, m, b, en⟩ := c
  obtain ⟨A, cp, rfl, hm, hx, hw⟩ := h
  unfold maxLen at hm
  have h1 : 30 < l.length := hl
  clear hx hw hl
  unfold Cf.val Cf.cells
  show Calls Tryd.prog 5 #[.agg #[.int .i64 n, .slice A l.length cp, .int .i64 wi, .int .i64 q, .int .i64 f, .int .i64 m, .int .i64 b, .int .i64 en], .int .i64 x] w _
  have hm2 : l.length ≤ 2 ^ 63 - 1 := hm
  have HB : Hid ((w.alloc (.cells #[.int .i64 n, .slice A l.length cp, .int .i64 wi, .int .i64 q, .int .i64 f, .int .i64 m, .int .i64 b, .int .i64 en] 26)).heap[w.heap.size]? = some (.cells #[.int .i64 n, .slice A l.length cp, .int .i64 wi, .int .i64 q, .int .i64 f, .int .i64 m, .int .i64 b, .int .i64 en] 26 (0, 0))) := blk_new _ _
  have HM0 : Hid (Mod (fun _ => False) w (w.alloc (.cells #[.int .i64 n, .slice A l.length cp, .int .i64 wi, .int .i64 q, .int .i64 f, .int .i64 m, .int .i64 b, .int .i64 en] 26))) := (Mod.refl _ _).alloc _
  clear hm
  go_enter Tryd.func5, Tryd.ntmps5
  go_wp2_with fail
  refine (awake_calls _).mono ?_
  rintro d w1 ⟨rfl, hm1⟩
  have c1 := (blk_cell (hm1.blk HB.out (fun x => x)) 1).trans rfl
  have HM1 := Lib.hid (HM0.out.trans hm1)
  clear hm1
  go_wp2
  go_ret
  exact ⟨rfl, HM1.out⟩

set_option maxRecDepth 100000 in
set_option maxHeartbeats 8000000 in
theorem kp_short (c : Cf) (v : Value) (x : Int) (w : World) (h : SetsIn w v c.vars) (hT : Tab w) (hl : c.vars.length ≤ 30) :
    Calls Tryd.prog 5 #[c.val v, .int .i64 x] w fun d w' => d = .returned (.bool true) ∧ Mod (fun _ => False) w w' := by
  have hw0 : ∀ s ∈ c.vars, s < 18446744073709551616 := by obtain ⟨_, _, _, _, _, hw⟩ := h; exact hw
  have HY : Hid (∀ k : Nat, c.keeper x = ((k : Int), true) → k < 16 ∧ c.keeps k x = true ∧ ∀ j : Nat, j < k → c.keeps j x = false) := fun k hk => by
    obtain ⟨k', e, h1, h2, h3⟩ := Cf.keeper_yes hw0 hk
    obtain rfl : k = k' := by omega
    exact ⟨h1, h2, h3⟩
  have HZ : Hid (∀ a, c.keeper x = (a, true) → ∃ k : Nat, a = k) := fun a ha => by
    obtain ⟨k', e, _⟩ := Cf.keeper_yes hw0 ha
    exact ⟨k', e⟩
  have HNo : Hid (∀ a, c.keeper x = (a, false) → a = 0 ∧ ∀ p : Int, c.keeps p x = false) := fun a ha => Cf.keeper_no hw0 ha
  have HKL : Hid (∀ p : Int, c.keeps p x = true → c.good = true ∧ inB x 0 (c.vars.length - 1) = true ∧ 0 ≤ p ∧ p < c.n ∧ inSet (c.vars.getD x.toNat 0) p = true) := fun p h => Cf.keeps_lt hw0 h
  clear hw0
  obtain ⟨n, l, wi, q, f, m, b, en⟩ := c
  have HV := h
  obtain ⟨A, cp, rfl, hm, hx, hw⟩ := h
  unfold maxLen at hm
  have h1 : l.length ≤ 30 := hl
  have HX := Lib.hid hx
  have HW := Lib.hid hw
  have HTb := Lib.hid hT
  clear hx hw hl hT
  unfold Cf.val Cf.cells
  show Calls Tryd.prog 5 #[.agg #[.int .i64 n, .slice A l.length cp, .int .i64 wi, .int .i64 q, .int .i64 f, .int .i64 m, .int .i64 b, .int .i64 en], .int .i64 x] w _
  have HHB : Hid (HeldC w w.heap.size n l wi q f m b en (.slice A l.length cp) (w.alloc (.cells #[.int .i64 n, .slice A l.length cp, .int .i64 wi, .int .i64 q, .int .i64 f, .int .i64 m, .int .i64 b, .int .i64 en] 26))) :=
    Held.cells ⟨blk_new _ _, HV.mod (S := fun _ => False) ((Mod.refl _ _).alloc _) (fun _ _ x => x), (Mod.refl _ _).alloc _⟩
  have HKr : Hid (∀ B W, HeldC w B n l wi q f m b en (.slice A l.length cp) W → Calls Tryd.prog 9 #[.agg #[.int .i64 n, .slice A l.length cp, .int .i64 wi, .int .i64 q, .int .i64 f, .int .i64 m, .int .i64 b, .int .i64 en], .int .i64 x] W fun d w' => d = .returned (pairV (Cf.keeper ⟨n, l, wi, q, f, m, b, en⟩ x)) ∧ HeldC w B n l wi q f m b en (.slice A l.length cp) w') :=
    fun B W h => (keeper_any ⟨n, l, wi, q, f, m, b, en⟩ (.slice A l.length cp) x W h.1.2.1 (HTb.out.mod h.modOf (fun x => x))).mono fun _ _ ⟨x, y⟩ => ⟨x, h.mod y⟩
  have HKs : Hid (∀ B W (p : Int), HeldC w B n l wi q f m b en (.slice A l.length cp) W → Calls Tryd.prog 10 #[.agg #[.int .i64 n, .slice A l.length cp, .int .i64 wi, .int .i64 q, .int .i64 f, .int .i64 m, .int .i64 b, .int .i64 en], .int .i64 p, .int .i64 x] W fun d w' => d = .returned (.bool (Cf.keeps ⟨n, l, wi, q, f, m, b, en⟩ p x)) ∧ HeldC w B n l wi q f m b en (.slice A l.length cp) w') :=
    fun B W p h => (keeps_any ⟨n, l, wi, q, f, m, b, en⟩ (.slice A l.length cp) p x W h.1.2.1).mono fun _ _ ⟨x, y⟩ => ⟨x, h.mod y⟩
  have HGd : Hid (∀ B W, HeldC w B n l wi q f m b en (.slice A l.length cp) W → Calls Tryd.prog 8 #[.agg #[.int .i64 n, .slice A l.length cp, .int .i64 wi, .int .i64 q, .int .i64 f, .int .i64 m, .int .i64 b, .int .i64 en]] W fun d w' => d = .returned (.bool (Cf.good ⟨n, l, wi, q, f, m, b, en⟩)) ∧ HeldC w B n l wi q f m b en (.slice A l.length cp) w') :=
    fun B W h => (good_any ⟨n, l, wi, q, f, m, b, en⟩ (.slice A l.length cp) W h.1.2.1).mono fun _ _ ⟨x, y⟩ => ⟨x, h.mod y⟩
  clear HV HTb
  generalize hkp : Cf.keeper ⟨n, l, wi, q, f, m, b, en⟩ x = kp at HKr HY HZ HNo
  clear hkp
  obtain ⟨a, ok⟩ := kp
  unfold pairV at HKr
  cases ok
  · obtain ⟨rfl, hno⟩ := HNo.out a rfl
    have HF := Lib.hid (hno 0)
    clear hno HNo HY HZ HKL HX HW HGd
    go_enter Tryd.func5, Tryd.ntmps5
    go_wp2_with fail
    refine (awake_calls _).mono ?_
    rintro d w1 ⟨rfl, hm1⟩
    have HH := Lib.hid (HHB.out.mod hm1)
    clear hm1 HHB
    generalize w.heap.size = B at HH
    have hHx := HH.out.2
    go_wp2_with fail
    refine (HKr.out B _ HH.out).mono ?_
    rintro d w2 ⟨rfl, hh2⟩
    clear hHx HH
    have HH := Lib.hid hh2
    clear hh2
    have hHx := HH.out.2
    go_wp2_with fail
    refine (HKs.out B _ 0 HH.out).mono ?_
    rintro d w3 ⟨rfl, hh3⟩
    rw [HF.out]
    clear hHx HH
    have HH := Lib.hid hh3
    clear hh3
    go_wp2
    go_ret
    exact ⟨rfl, HH.out.modOf⟩
  · obtain ⟨k, rfl⟩ := HZ.out a rfl
    obtain ⟨hk16, hkk, hkj⟩ := HY.out k rfl
    obtain ⟨hg, hin, hk0, hkn, hset⟩ := HKL.out _ hkk
    have hb := inB_true hin
    obtain ⟨y, rfl⟩ := Int.eq_ofNat_of_zero_le hb.1
    have hy : y < l.length := by have h : (y : Int) ≤ (l.length : Int) - 1 := hb.2; omega
    obtain ⟨bs, os, rfl, hbs, hcs⟩ := HX.out.resolve_left (fun e => by have h : l = [] := e; rw [h] at hy; simp at hy)
    have HCK := Lib.hid (hcs y hy)
    have HBS := Lib.hid hbs
    have HWK : Hid (l.getD y 0 < 18446744073709551616) := HW.out _ (by rw [List.getD_eq_getElem?_getD, List.getElem?_eq_getElem hy]; exact List.getElem_mem hy)
    have hi : (y : Int) < l.length := by omega
    have hi0 : (0 : Int) ≤ (y : Int) := by omega
    have HS : Hid (inSet (l.getD y 0) (k : Int) = true) := by show _ = _; have h : inSet (l.getD (y : Int).toNat 0) (k : Int) = true := hset; rw [Int.toNat_natCast] at h; exact h
    have HKK := Lib.hid hkk
    have HKJ := Lib.hid hkj
    rw [hg] at HGd
    clear hkk hkj hg hin hset hb hcs hbs HNo HY HZ HKL HX HW hk0 hkn
    generalize l.getD y 0 = s at HCK HWK HS
    have HH0 := Lib.hid (fun W => has_any s (k : Int) W HWK.out)
    rw [HS.out] at HH0
    generalize hks : (fun p => Cf.keeps ⟨n, l, wi, q, f, m, b, en⟩ p (y : Int)) = ks
    have HQ : Hid (∀ p, Cf.keeps ⟨n, l, wi, q, f, m, b, en⟩ p (y : Int) = ks p) := fun p => by rw [← hks]
    clear hks
    go_enter Tryd.func5, Tryd.ntmps5
    go_wp2_with fail
    refine (awake_calls _).mono ?_
    rintro d w1 ⟨rfl, hm1⟩
    have HH := Lib.hid (HHB.out.mod hm1)
    clear hm1 HHB
    generalize w.heap.size = B at HH
    have hHx := HH.out.2
    go_wp2_with fail
    refine (HKr.out B _ HH.out).mono ?_
    rintro d w2 ⟨rfl, hh2⟩
    clear hHx HH
    have HH := Lib.hid hh2
    clear hh2
    go_wp2
    go_loopw [7] (fun i wr => ∃ j : Nat, j ≤ k ∧ i = .int .i64 j ∧ Hid (HeldC w B n l wi q f m b en (.slice (some ⟨bs, os, none⟩) l.length cp) wr)) (fun i _ => k - (intOf i).toNat)
    case atStart => exact ⟨0, Nat.zero_le _, rfl, HH⟩
    case round =>
      obtain ⟨j, hj, rfl, hR⟩ := hrel
      have hHx := hR.out.2
      by_cases hlt : j < k
      · have hji : (j : Int) < (k : Int) := by omega
        have HT := Lib.hid (HKs.out B wr (j : Int) hR.out)
        rw [HKJ.out j hlt] at HT
        go_wp2_with fail
        refine HT.out.mono ?_
        rintro d w3 ⟨rfl, hh3⟩
        clear hHx
        have HH3 := Lib.hid hh3
        clear hh3
        go_wp2
        go_roundw
        case rel => exact ⟨j + 1, by omega, by go_num, HH3⟩
        case measure => simp [intOf]; omega
      · have hji : ¬ (j : Int) < (k : Int) := by omega
        go_wp2_with fail
        refine (HGd.out B wr hR.out).mono ?_
        rintro d w3 ⟨rfl, hh3⟩
        clear hHx
        have HH3 := Lib.hid hh3
        clear hh3
        have hHx := HH3.out.2
        have HT := Lib.hid (HKs.out B w3 (k : Int) HH3.out)
        rw [HKK.out] at HT
        go_wp2_with fail
        refine HT.out.mono ?_
        rintro d w4 ⟨rfl, hh4⟩
        clear hHx
        have HH4 := Lib.hid hh4
        have c2 : w4.cell? ⟨bs, os + y, none⟩ = some (.int .u64 (s : Int)) := by
          rw [World.cell?_of_block (hh4.modOf.block bs HBS.out (fun x => x))]
          exact HCK.out
        clear hh4
        have hHx := HH4.out.2
        go_wp2_with fail
        refine (HH0.out _).mono ?_
        rintro d w5 ⟨rfl, rfl⟩
        go_wp2
        go_ret
        exact ⟨rfl, HH4.out.modOf⟩
end Go.Proofs.YtcnjllkmliphkaaDoor
