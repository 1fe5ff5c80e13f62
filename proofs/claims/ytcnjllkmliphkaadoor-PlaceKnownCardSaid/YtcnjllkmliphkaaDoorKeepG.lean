/-
  The reference's Keeps, May, Keeper.
-/
import Derived.Test.YtcnjllkmliphkaaDoorKeepD
import Derived.Test.YtcnjllkmliphkaaDoorKeepF
namespace Go.Proofs.YtcnjllkmliphkaaDoor
open Go.RowKit Go.Shoal

set_option maxRecDepth 100000 in
set_option maxHeartbeats 8000000 in
theorem rkeeps_any (c : Cf) (v : Value) (p x : Int) (w : World) (h : SetsIn w v c.vars) : Calls Tryd.prog 15 #[c.val v, .int .i64 p, .int .i64 x] w fun e w' => e = .returned (.bool (c.keeps p x)) ∧ Mod (fun _ => False) w w' := by
  obtain ⟨n, l, wi, q, f, m, b, en⟩ := c
  have HV := h
  obtain ⟨A, cp, rfl, hl, hx, hw⟩ := h
  unfold maxLen at hl
  have HL : Hid (∀ r, (Cf.keeps ⟨n, l, wi, q, f, m, b, en⟩ p x) = r → Cf.keeps ⟨n, l, wi, q, f, m, b, en⟩ p x = r) := fun r h => h
  have HG := Lib.hid (rgood_any ⟨n, l, wi, q, f, m, b, en⟩ (.slice A l.length cp) _ (HV.mod (S := fun _ => False) ((Mod.refl _ _).alloc (.cells #[.int .i64 n, .slice A l.length cp, .int .i64 wi, .int .i64 q, .int .i64 f, .int .i64 m, .int .i64 b, .int .i64 en] 37)) (fun _ _ x => x)))
  have HX := Lib.hid hx
  have HW := Lib.hid hw
  have HKL : Hid (∀ {p x : Int}, Cf.keeps ⟨n, l, wi, q, f, m, b, en⟩ p x = true → Cf.good ⟨n, l, wi, q, f, m, b, en⟩ = true ∧ inB x 0 ((l.length : Int) - 1) = true ∧ 0 ≤ p ∧ p < n ∧ inSet (l.getD x.toNat 0) p = true) := fun h => Cf.keeps_lt (c := ⟨n, l, wi, q, f, m, b, en⟩) hw h
  clear HV hx hw
  unfold Cf.val Cf.cells at HG
  unfold Cf.val Cf.cells
  show Calls Tryd.prog 15 #[.agg #[.int .i64 n, .slice A l.length cp, .int .i64 wi, .int .i64 q, .int .i64 f, .int .i64 m, .int .i64 b, .int .i64 en], .int .i64 p, .int .i64 x] w fun e w' => e = .returned (.bool (Cf.keeps ⟨n, l, wi, q, f, m, b, en⟩ p x)) ∧ Mod (fun _ => False) w w'
  have HB : Hid ((w.alloc (.cells #[.int .i64 n, .slice A l.length cp, .int .i64 wi, .int .i64 q, .int .i64 f, .int .i64 m, .int .i64 b, .int .i64 en] 37)).heap[w.heap.size]? = some (.cells #[.int .i64 n, .slice A l.length cp, .int .i64 wi, .int .i64 q, .int .i64 f, .int .i64 m, .int .i64 b, .int .i64 en] 37 (0, 0))) := blk_new _ _
  have HM0 : Hid (Mod (fun _ => False) w (w.alloc (.cells #[.int .i64 n, .slice A l.length cp, .int .i64 wi, .int .i64 q, .int .i64 f, .int .i64 m, .int .i64 b, .int .i64 en] 37))) := (Mod.refl _ _).alloc _

  cases hgd : Cf.good ⟨n, l, wi, q, f, m, b, en⟩
  · rw [hgd] at HG
    have hE : Hid (Cf.keeps ⟨n, l, wi, q, f, m, b, en⟩ p x = false) := by show _ = _; exact Bool.eq_false_iff.2 (fun h => by have h := HKL.out h; rw [hgd] at h; cases h.1)
    clear HKL
    go_enter Tryd.func15, Tryd.ntmps15
    go_wp2_with fail
    refine HG.out.mono ?_
    rintro e w1 ⟨rfl, hm⟩
    have c0 := (blk_cell (hm.blk HB.out (fun x => x)) 0).trans rfl
    have c1 := (blk_cell (hm.blk HB.out (fun x => x)) 1).trans rfl
    have HM := Lib.hid (HM0.out.trans hm)
    clear hm hgd
    go_wp2
    go_ret
    exact ⟨by rw [hE.out]; rfl, HM.out⟩
  rw [hgd] at HG
  by_cases k4 : p < 0
  · have hE : Hid (Cf.keeps ⟨n, l, wi, q, f, m, b, en⟩ p x = false) := by show _ = _; exact Bool.eq_false_iff.2 (fun h => by have h := HKL.out h; have h2 := inB_true h.2.1; omega)
    clear HKL
    go_enter Tryd.func15, Tryd.ntmps15
    go_wp2_with fail
    refine HG.out.mono ?_
    rintro e w1 ⟨rfl, hm⟩
    have c0 := (blk_cell (hm.blk HB.out (fun x => x)) 0).trans rfl
    have c1 := (blk_cell (hm.blk HB.out (fun x => x)) 1).trans rfl
    have HM := Lib.hid (HM0.out.trans hm)
    clear hm hgd
    have k : ¬ 0 ≤ p := by omega
    have kd : decide (0 ≤ p) = false := decide_eq_false k
    go_wp2
    go_ret
    exact ⟨by rw [hE.out]; rfl, HM.out⟩
  by_cases k6 : n ≤ p
  · have hE : Hid (Cf.keeps ⟨n, l, wi, q, f, m, b, en⟩ p x = false) := by show _ = _; exact Bool.eq_false_iff.2 (fun h => by have h := HKL.out h; have h2 := inB_true h.2.1; omega)
    clear HKL
    go_enter Tryd.func15, Tryd.ntmps15
    go_wp2_with fail
    refine HG.out.mono ?_
    rintro e w1 ⟨rfl, hm⟩
    have c0 := (blk_cell (hm.blk HB.out (fun x => x)) 0).trans rfl
    have c1 := (blk_cell (hm.blk HB.out (fun x => x)) 1).trans rfl
    have HM := Lib.hid (HM0.out.trans hm)
    clear hm hgd
    have k : ¬ p < n := by omega
    have kd : decide (p < n) = false := decide_eq_false k
    go_wp2
    go_ret
    exact ⟨by rw [hE.out]; rfl, HM.out⟩
  by_cases k8 : x < 0
  · have hE : Hid (Cf.keeps ⟨n, l, wi, q, f, m, b, en⟩ p x = false) := by show _ = _; exact Bool.eq_false_iff.2 (fun h => by have h := HKL.out h; have h2 := inB_true h.2.1; omega)
    clear HKL
    go_enter Tryd.func15, Tryd.ntmps15
    go_wp2_with fail
    refine HG.out.mono ?_
    rintro e w1 ⟨rfl, hm⟩
    have c0 := (blk_cell (hm.blk HB.out (fun x => x)) 0).trans rfl
    have c1 := (blk_cell (hm.blk HB.out (fun x => x)) 1).trans rfl
    have HM := Lib.hid (HM0.out.trans hm)
    clear hm hgd
    have k : ¬ 0 ≤ x := by omega
    have kd : decide (0 ≤ x) = false := decide_eq_false k
    go_wp2
    go_ret
    exact ⟨by rw [hE.out]; rfl, HM.out⟩
  by_cases k10 : (l.length : Int) ≤ x
  · have hE : Hid (Cf.keeps ⟨n, l, wi, q, f, m, b, en⟩ p x = false) := by show _ = _; exact Bool.eq_false_iff.2 (fun h => by have h := HKL.out h; have h2 := inB_true h.2.1; omega)
    clear HKL
    go_enter Tryd.func15, Tryd.ntmps15
    go_wp2_with fail
    refine HG.out.mono ?_
    rintro e w1 ⟨rfl, hm⟩
    have c0 := (blk_cell (hm.blk HB.out (fun x => x)) 0).trans rfl
    have c1 := (blk_cell (hm.blk HB.out (fun x => x)) 1).trans rfl
    have HM := Lib.hid (HM0.out.trans hm)
    clear hm hgd
    have k : ¬ x < l.length := by omega
    have kd : decide (x < (l.length : Int)) = false := decide_eq_false k
    go_wp2
    go_ret
    exact ⟨by rw [hE.out]; rfl, HM.out⟩
  obtain ⟨k, rfl⟩ := Int.eq_ofNat_of_zero_le (show 0 ≤ x by omega)
  have hk : k < l.length := by omega
  have hi : (k : Int) < l.length := by omega
  have hi0 : (0 : Int) ≤ (k : Int) := by omega
  have hp0 : 0 ≤ p := by omega
  have hpn : p < n := by omega
  obtain ⟨bs, os, rfl, hbs, hcs⟩ := HX.out.resolve_left (fun e => by have h : l = [] := e; rw [h] at hk; simp at hk)
  have HCK := Lib.hid (hcs k hk)
  have HBS := Lib.hid hbs
  have HWK : Hid (l.getD k 0 < 18446744073709551616) := HW.out _ (by rw [List.getD_eq_getElem?_getD, List.getElem?_eq_getElem hk]; exact List.getElem_mem hk)
  have hE : Hid (Cf.keeps ⟨n, l, wi, q, f, m, b, en⟩ p (k : Int) = inSet (l.getD k 0) p) := by
    show _ = _
    have hin : inB (k : Int) 0 ((l.length : Int) - 1) = true := (inB_iff _ _ _).2 (by omega)
    show (Cf.good ⟨n, l, wi, q, f, m, b, en⟩ && inB (k : Int) 0 ((l.length : Int) - 1) && inSet (l.getD (k : Int).toNat 0) p) = _
    rw [hgd, hin, Int.toNat_natCast]
    rfl
  clear hcs HX HKL hgd
  generalize l.getD k 0 = s at HCK HWK hE
  have HI := Lib.hid (fun w => rin_any s p w HWK.out)
  go_enter Tryd.func15, Tryd.ntmps15
  go_wp2_with fail
  refine HG.out.mono ?_
  rintro e w1 ⟨rfl, hm⟩
  have c0 := (blk_cell (hm.blk HB.out (fun x => x)) 0).trans rfl
  have c1 := (blk_cell (hm.blk HB.out (fun x => x)) 1).trans rfl
  have HM := Lib.hid (HM0.out.trans hm)
  have c2 : w1.cell? ⟨bs, os + k, none⟩ = some (.int .u64 (s : Int)) := by
    rw [World.cell?_of_block (HM.out.block bs HBS.out (fun x => x))]
    exact HCK.out
  clear hm
  go_wp2_with fail
  refine (HI.out w1).mono ?_
  rintro e w2 ⟨rfl, rfl⟩
  go_wp2
  go_ret
  exact ⟨by rw [hE.out]; rfl, HM.out⟩

set_option maxRecDepth 100000 in
set_option maxHeartbeats 8000000 in
theorem rmay_any (c : Cf) (v : Value) (p : Int) (t : Nat) (ht : t < 18446744073709551616) (w : World) (h : SetsIn w v c.vars) : Calls Tryd.prog 16 #[c.val v, .int .i64 p, .int .u64 t] w fun e w' => e = .returned (.bool (c.may p t)) ∧ Mod (fun _ => False) w w' := by
  obtain ⟨n, l, wi, q, f, m, b, en⟩ := c
  have HV := h
  obtain ⟨A, cp, rfl, hl, hx, hw⟩ := h
  unfold maxLen at hl
  have HL : Hid (∀ r, (Cf.may ⟨n, l, wi, q, f, m, b, en⟩ p t) = r → Cf.may ⟨n, l, wi, q, f, m, b, en⟩ p t = r) := fun r h => h
  have HG := Lib.hid (rgood_any ⟨n, l, wi, q, f, m, b, en⟩ (.slice A l.length cp) _ (HV.mod (S := fun _ => False) ((Mod.refl _ _).alloc (.cells #[.int .i64 n, .slice A l.length cp, .int .i64 wi, .int .i64 q, .int .i64 f, .int .i64 m, .int .i64 b, .int .i64 en] 37)) (fun _ _ x => x)))
  have HX := Lib.hid hx
  have HW := Lib.hid hw
  have HKL : Hid (∀ {p x : Int}, Cf.keeps ⟨n, l, wi, q, f, m, b, en⟩ p x = true → Cf.good ⟨n, l, wi, q, f, m, b, en⟩ = true ∧ inB x 0 ((l.length : Int) - 1) = true ∧ 0 ≤ p ∧ p < n ∧ inSet (l.getD x.toNat 0) p = true) := fun h => Cf.keeps_lt (c := ⟨n, l, wi, q, f, m, b, en⟩) hw h
  clear HV hx hw
  unfold Cf.val Cf.cells at HG
  unfold Cf.val Cf.cells
  show Calls Tryd.prog 16 #[.agg #[.int .i64 n, .slice A l.length cp, .int .i64 wi, .int .i64 q, .int .i64 f, .int .i64 m, .int .i64 b, .int .i64 en], .int .i64 p, .int .u64 t] w fun e w' => e = .returned (.bool (Cf.may ⟨n, l, wi, q, f, m, b, en⟩ p t)) ∧ Mod (fun _ => False) w w'
  have HB : Hid ((w.alloc (.cells #[.int .i64 n, .slice A l.length cp, .int .i64 wi, .int .i64 q, .int .i64 f, .int .i64 m, .int .i64 b, .int .i64 en] 37)).heap[w.heap.size]? = some (.cells #[.int .i64 n, .slice A l.length cp, .int .i64 wi, .int .i64 q, .int .i64 f, .int .i64 m, .int .i64 b, .int .i64 en] 37 (0, 0))) := blk_new _ _
  have HM0 : Hid (Mod (fun _ => False) w (w.alloc (.cells #[.int .i64 n, .slice A l.length cp, .int .i64 wi, .int .i64 q, .int .i64 f, .int .i64 m, .int .i64 b, .int .i64 en] 37))) := (Mod.refl _ _).alloc _

  clear HKL HX HW
  have HKL : Hid True := trivial
  have HME : Hid (Cf.may ⟨n, l, wi, q, f, m, b, en⟩ p t = (Cf.good ⟨n, l, wi, q, f, m, b, en⟩ && inB p 0 (n - 1) && someB t n && !inSet t p)) := rfl
  cases hgd : Cf.good ⟨n, l, wi, q, f, m, b, en⟩
  · rw [hgd] at HG HME
    have hE : Hid (Cf.may ⟨n, l, wi, q, f, m, b, en⟩ p t = false) := by show _ = _; rw [HME.out]; rfl
    clear HKL
    go_enter Tryd.func16, Tryd.ntmps16
    go_wp2_with fail
    refine HG.out.mono ?_
    rintro e w1 ⟨rfl, hm⟩
    have c0 := (blk_cell (hm.blk HB.out (fun x => x)) 0).trans rfl
    have c1 := (blk_cell (hm.blk HB.out (fun x => x)) 1).trans rfl
    have HM := Lib.hid (HM0.out.trans hm)
    clear hm hgd
    go_wp2
    go_ret
    exact ⟨by rw [hE.out]; rfl, HM.out⟩
  rw [hgd] at HG HME
  by_cases k7 : p < 0
  · have hE : Hid (Cf.may ⟨n, l, wi, q, f, m, b, en⟩ p t = false) := by show _ = _; rw [HME.out, show inB p 0 (n - 1) = false from Bool.eq_false_iff.2 (fun h => by have h := inB_true h; omega)]; rfl
    clear HKL
    go_enter Tryd.func16, Tryd.ntmps16
    go_wp2_with fail
    refine HG.out.mono ?_
    rintro e w1 ⟨rfl, hm⟩
    have c0 := (blk_cell (hm.blk HB.out (fun x => x)) 0).trans rfl
    have c1 := (blk_cell (hm.blk HB.out (fun x => x)) 1).trans rfl
    have HM := Lib.hid (HM0.out.trans hm)
    clear hm hgd
    have k : ¬ 0 ≤ p := by omega
    have kd : decide (0 ≤ p) = false := decide_eq_false k
    go_wp2
    go_ret
    exact ⟨by rw [hE.out]; rfl, HM.out⟩
  by_cases k9 : n ≤ p
  · have hE : Hid (Cf.may ⟨n, l, wi, q, f, m, b, en⟩ p t = false) := by show _ = _; rw [HME.out, show inB p 0 (n - 1) = false from Bool.eq_false_iff.2 (fun h => by have h := inB_true h; omega)]; rfl
    clear HKL
    go_enter Tryd.func16, Tryd.ntmps16
    go_wp2_with fail
    refine HG.out.mono ?_
    rintro e w1 ⟨rfl, hm⟩
    have c0 := (blk_cell (hm.blk HB.out (fun x => x)) 0).trans rfl
    have c1 := (blk_cell (hm.blk HB.out (fun x => x)) 1).trans rfl
    have HM := Lib.hid (HM0.out.trans hm)
    clear hm hgd
    have k : ¬ p < n := by omega
    have kd : decide (p < n) = false := decide_eq_false k
    go_wp2
    go_ret
    exact ⟨by rw [hE.out]; rfl, HM.out⟩
  have hp0 : 0 ≤ p := by omega
  have hpn : p < n := by omega
  have HME2 : Hid (Cf.may ⟨n, l, wi, q, f, m, b, en⟩ p t = (someB t n && !inSet t p)) := by show _ = _; rw [HME.out, show inB p 0 (n - 1) = true from (inB_iff _ _ _).2 (by omega)]; rfl
  clear HME hgd
  by_cases h0 : t = 0
  · have hE : Hid (Cf.may ⟨n, l, wi, q, f, m, b, en⟩ p t = false) := by show _ = _; rw [HME2.out, h0]; rfl
    clear HKL
    go_enter Tryd.func16, Tryd.ntmps16
    go_wp2_with fail
    refine HG.out.mono ?_
    rintro e w1 ⟨rfl, hm⟩
    have c0 := (blk_cell (hm.blk HB.out (fun x => x)) 0).trans rfl
    have c1 := (blk_cell (hm.blk HB.out (fun x => x)) 1).trans rfl
    have HM := Lib.hid (HM0.out.trans hm)
    have h1 : ((t : Int) != 0) = false := by simp [h0]
    clear hm h0
    go_wp2
    go_ret
    exact ⟨by rw [hE.out]; rfl, HM.out⟩
  have h1 : ((t : Int) != 0) = true := by simp; omega
  have HTB : Hid (someB t n = decide (lessOf t (allOf n) = 0)) := by show _ = _; unfold someB; rw [decide_eq_true h0, Bool.true_and]
  have HA := Lib.hid (rall_any n)
  have HLT := within_bits t (allOf n) ht (allOf_lt n)
  generalize allOf n = a at HA HTB HLT
  clear h0
  cases hz : decide (lessOf t a = 0)
  · have hE : Hid (Cf.may ⟨n, l, wi, q, f, m, b, en⟩ p t = false) := by show _ = _; rw [HME2.out, HTB.out, hz]; rfl
    clear HKL
    go_enter Tryd.func16, Tryd.ntmps16
    go_wp2_with fail
    refine HG.out.mono ?_
    rintro e w1 ⟨rfl, hm⟩
    have c0 := (blk_cell (hm.blk HB.out (fun x => x)) 0).trans rfl
    have c1 := (blk_cell (hm.blk HB.out (fun x => x)) 1).trans rfl
    have HM := Lib.hid (HM0.out.trans hm)
    rw [hz] at HLT
    clear hm hz
    go_wp2_with fail
    refine (HA.out w1).mono ?_
    rintro e w2 ⟨rfl, rfl⟩
    go_wp2
    go_ret
    exact ⟨by rw [hE.out]; rfl, HM.out⟩
  have HI := Lib.hid (fun w => rin_any t p w ht)
  rw [hz] at HLT
  cases hi : inSet t p
  · have hE : Hid (Cf.may ⟨n, l, wi, q, f, m, b, en⟩ p t = true) := by show _ = _; rw [HME2.out, HTB.out, hz, hi]; rfl
    clear HKL
    go_enter Tryd.func16, Tryd.ntmps16
    go_wp2_with fail
    refine HG.out.mono ?_
    rintro e w1 ⟨rfl, hm⟩
    have c0 := (blk_cell (hm.blk HB.out (fun x => x)) 0).trans rfl
    have c1 := (blk_cell (hm.blk HB.out (fun x => x)) 1).trans rfl
    have HM := Lib.hid (HM0.out.trans hm)
    rw [hi] at HI
    clear hm hz hi
    go_wp2_with fail
    refine (HA.out w1).mono ?_
    rintro e w2 ⟨rfl, rfl⟩
    go_wp2_with fail
    refine (HI.out w1).mono ?_
    rintro e w2 ⟨rfl, rfl⟩
    go_wp2
    go_ret
    exact ⟨by rw [hE.out]; rfl, HM.out⟩
  · have hE : Hid (Cf.may ⟨n, l, wi, q, f, m, b, en⟩ p t = false) := by show _ = _; rw [HME2.out, HTB.out, hz, hi]; rfl
    clear HKL
    go_enter Tryd.func16, Tryd.ntmps16
    go_wp2_with fail
    refine HG.out.mono ?_
    rintro e w1 ⟨rfl, hm⟩
    have c0 := (blk_cell (hm.blk HB.out (fun x => x)) 0).trans rfl
    have c1 := (blk_cell (hm.blk HB.out (fun x => x)) 1).trans rfl
    have HM := Lib.hid (HM0.out.trans hm)
    rw [hi] at HI
    clear hm hz hi
    go_wp2_with fail
    refine (HA.out w1).mono ?_
    rintro e w2 ⟨rfl, rfl⟩
    go_wp2_with fail
    refine (HI.out w1).mono ?_
    rintro e w2 ⟨rfl, rfl⟩
    go_wp2
    go_ret
    exact ⟨by rw [hE.out]; rfl, HM.out⟩

set_option maxRecDepth 100000 in
set_option maxHeartbeats 8000000 in
theorem rkeeper_any (c : Cf) (v : Value) (x : Int) (w : World) (h : SetsIn w v c.vars) : Calls Tryd.prog 13 #[c.val v, .int .i64 x] w fun e w' => e = .returned (pairV (c.keeper x)) ∧ Mod (fun _ => False) w w' := by
  have HS : Hid (∀ k : Nat, c.keeps k x = true → (∀ j : Nat, j < k → c.keeps j x = false) → c.keeper x = ((k : Int), true)) := fun k h1 h2 => by
    obtain ⟨_, _, _, _, _, hw⟩ := h
    exact Cf.keeper_some hw h1 h2
  have HN : Hid ((∀ j : Nat, j < 16 → c.keeps j x = false) → c.keeper x = (0, false)) := fun h1 => by
    obtain ⟨_, _, _, _, _, hw⟩ := h
    exact Cf.keeper_none hw h1
  have HK : Hid (∀ (p : Int) (W : World), Mod (fun _ => False) w W → Calls Tryd.prog 15 #[c.val v, .int .i64 p, .int .i64 x] W fun e w' => e = .returned (.bool (c.keeps p x)) ∧ Mod (fun _ => False) W w') :=
    fun p W hm => rkeeps_any c v p x W (h.mod hm (fun _ _ x => x))
  clear h
  obtain ⟨n, l, wi, q, f, m, b, en⟩ := c
  generalize Cf.keeper ⟨n, l, wi, q, f, m, b, en⟩ x = kp at HS HN ⊢
  obtain ⟨r1, r2⟩ := kp
  generalize hks : (fun p => Cf.keeps ⟨n, l, wi, q, f, m, b, en⟩ p x) = ks
  have HKS : Hid (∀ p, Cf.keeps ⟨n, l, wi, q, f, m, b, en⟩ p x = ks p) := fun p => by rw [← hks]
  clear hks
  unfold Cf.val Cf.cells at HK
  unfold Cf.val Cf.cells pairV
  show Calls Tryd.prog 13 #[.agg #[.int .i64 n, v, .int .i64 wi, .int .i64 q, .int .i64 f, .int .i64 m, .int .i64 b, .int .i64 en], .int .i64 x] w fun e w' => e = .returned (.tuple #[.int .i64 r1, .bool r2]) ∧ Mod (fun _ => False) w w'
  have HB : Hid ((w.alloc (.cells #[.int .i64 n, v, .int .i64 wi, .int .i64 q, .int .i64 f, .int .i64 m, .int .i64 b, .int .i64 en] 37)).heap[w.heap.size]? = some (.cells #[.int .i64 n, v, .int .i64 wi, .int .i64 q, .int .i64 f, .int .i64 m, .int .i64 b, .int .i64 en] 37 (0, 0))) := blk_new _ _
  have HM0 : Hid (Mod (fun _ => False) w (w.alloc (.cells #[.int .i64 n, v, .int .i64 wi, .int .i64 q, .int .i64 f, .int .i64 m, .int .i64 b, .int .i64 en] 37))) := (Mod.refl _ _).alloc _
  go_enter Tryd.func13, Tryd.ntmps13
  go_wp2
  go_loopw [6] (fun i wr => ∃ k : Nat, k ≤ 16 ∧ i = .int .i64 k ∧ Hid (∀ j : Nat, j < k → ks j = false) ∧ Hid (Mod (fun _ => False) w wr) ∧ Hid (wr.heap[w.heap.size]? = some (.cells #[.int .i64 n, v, .int .i64 wi, .int .i64 q, .int .i64 f, .int .i64 m, .int .i64 b, .int .i64 en] 37 (0, 0))))
    (fun i _ => 16 - (intOf i).toNat)
  case atStart => exact ⟨0, Nat.zero_le _, rfl, fun j hj => absurd hj (by omega), HM0.out, HB.out⟩
  case round =>
    obtain ⟨k, hk, rfl, hA, hM, hBw⟩ := hrel
    have c0 := (blk_cell hBw.out 0).trans rfl
    have c1 := (blk_cell hBw.out 1).trans rfl
    have c2 := (blk_cell hBw.out 2).trans rfl
    have c3 := (blk_cell hBw.out 3).trans rfl
    have c4 := (blk_cell hBw.out 4).trans rfl
    have c5 := (blk_cell hBw.out 5).trans rfl
    have c6 := (blk_cell hBw.out 6).trans rfl
    have c7 := (blk_cell hBw.out 7).trans rfl
    by_cases hlt : k < 16
    · have hi : (k : Int) < 16 := by omega
      have HT := Lib.hid (HK.out (k : Int) wr hM.out)
      have HE := Lib.hid (HKS.out (k : Int))
      rw [HE.out] at HT
      cases hb : ks (k : Int)
      · have HA2 : Hid (∀ j : Nat, j < k + 1 → ks j = false) := fun j hj => by
          rcases Nat.lt_succ_iff_lt_or_eq.1 hj with h | h
          · exact hA.out j h
          · rw [h]; exact hb
        rw [hb] at HT
        clear hb HE
        go_wp2_with fail
        refine HT.out.mono ?_
        rintro e w1 ⟨rfl, hm⟩
        have HM1 := Lib.hid (hM.out.trans hm)
        have HB1 := Lib.hid (hm.blk hBw.out (fun x => x))
        clear hm
        go_wp2
        go_roundw
        case rel => exact ⟨k + 1, by omega, by go_num, HA2, HM1, HB1⟩
        case measure => simp [intOf]; omega
      · have HY : Hid (((r1, r2) : Int × Bool) = ((k : Int), true)) := HS.out k (by rw [HE.out]; exact hb) (fun j hj => by rw [HKS.out]; exact hA.out j hj)
        rw [hb] at HT
        clear hb HE
        obtain ⟨rfl, rfl⟩ := Prod.mk.inj HY.out
        go_wp2_with fail
        refine HT.out.mono ?_
        rintro e w1 ⟨rfl, hm⟩
        have HM1 := Lib.hid (hM.out.trans hm)
        clear hm
        go_wp2
        go_ret2
        exact ⟨rfl, HM1.out⟩
    · have hi : ¬ (k : Int) < 16 := by omega
      have HY : Hid (((r1, r2) : Int × Bool) = (0, false)) := HN.out (fun j hj => by rw [HKS.out]; exact hA.out j (by omega))
      obtain ⟨rfl, rfl⟩ := Prod.mk.inj HY.out
      go_wp2
      go_ret2
      exact ⟨rfl, hM.out⟩
end Go.Proofs.YtcnjllkmliphkaaDoor
