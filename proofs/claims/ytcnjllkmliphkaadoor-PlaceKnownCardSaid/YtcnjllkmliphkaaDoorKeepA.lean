/-
  dset.First over the laid table; place.Keeper.
-/
import Derived.Test.YtcnjllkmliphkaaDoorPlaceD
import Derived.Shelf.Spec.TrailingZeros
import Derived.Lib.LaidTab
namespace Go.Proofs.YtcnjllkmliphkaaDoor
open Go.RowKit Go.Shoal

/-- The laid table. -/
def Tab (w : World) : Prop := 0 < w.heap.size ∧ ∀ j, j < 64 → w.cell? ⟨0, j, none⟩ = some (.int .u8 ((Lib.deBruijn64tab.getD j 0 : Nat) : Int))
theorem Tab.mod {S : Nat → Prop} {w w' : World} (h : Tab w) (hm : Mod S w w') (hs : ¬ S 0) : Tab w' :=
  ⟨Nat.lt_of_lt_of_le h.1 hm.size, fun j hj => by rw [World.cell?_of_block (hm.block _ h.1 hs)]; exact h.2 j hj⟩

set_option maxHeartbeats 1000000 in
theorem tz_core (x k idx : Nat) (w : World) (hx0 : ((x : Int) == 0) = false)
    (key : IntKind.u64.wrap (bits BinOp.and IntKind.u64 (x : Int) (IntKind.u64.wrap (-(x : Int))) * 285870213051353865) / 288230376151711744 = (idx : Int))
    (hi : idx < 64) (hk : k < 64) (hcell : w.cell? ⟨0, idx, none⟩ = some (.int .u8 k)) :
    Calls Tryd.prog 29 #[.int .u64 x] w fun e w' => e = .returned (.int .i64 k) ∧ w = w' := by
  go_enter Tryd.func29, Tryd.ntmps29
  go_wp2_with (simp only [key])
  go_ret
  exact ⟨rfl, rfl⟩
theorem tz_any (x : Nat) (w : World) (hx : x < 18446744073709551616) (hx0 : x ≠ 0) (hT : Tab w) :
    Calls Tryd.prog 29 #[.int .u64 x] w fun e w' => e = .returned (.int .i64 (Lib.ctz 64 x)) ∧ w = w' := by
  obtain ⟨hlow, hk⟩ := Lib.lowest_bit 64 x hx0 hx
  obtain ⟨hi, htab⟩ := Lib.deBruijn64_at _ hk
  have hcell := hT.2 _ hi
  rw [htab] at hcell
  exact tz_core x _ _ w (by simp; omega) (tz64_key x _ hx hx0 hlow) hi hk hcell

/-- The first of a set. -/
def firstOf (s : Nat) : Int × Bool := if s = 0 then (0, false) else (Lib.ctz 64 s, true)
def pairV (x : Int × Bool) : Value := .tuple #[.int .i64 x.1, .bool x.2]
set_option maxHeartbeats 400000 in
theorem first_any (s : Nat) (w : World) (hs : s < 18446744073709551616) (hT : Tab w) :
    Calls Tryd.prog 24 #[.int .u64 s] w fun e w' => e = .returned (pairV (firstOf s)) ∧ w = w' := by
  by_cases h : s = 0
  · subst h
    go_enter Tryd.func24, Tryd.ntmps24
    go_wp2
    go_ret2
    exact ⟨rfl, rfl⟩
  · have HE : Hid (firstOf s = (((Lib.ctz 64 s : Nat) : Int), true)) := by show _ = _; simp [firstOf, h]
    have HT := Lib.hid (tz_any s w hs h hT)
    have h1 : ((s : Int) == 0) = false := by simp; omega
    clear h
    generalize Lib.ctz 64 s = k at HE HT
    go_enter Tryd.func24, Tryd.ntmps24
    go_wp2_with fail
    refine HT.out.mono ?_
    rintro e w1 ⟨rfl, rfl⟩
    go_wp2
    go_ret2
    exact ⟨by rw [HE.out]; rfl, rfl⟩

def Cf.keeper (c : Cf) (v : Int) : Int × Bool := if c.good && inB v 0 (c.vars.length - 1) then firstOf (c.vars.getD v.toNat 0) else (0, false)
set_option maxRecDepth 100000 in
set_option maxHeartbeats 4000000 in
theorem keeper_any (c : Cf) (v : Value) (x : Int) (w : World) (h : SetsIn w v c.vars) (hT : Tab w) : Calls Tryd.prog 9 #[c.val v, .int .i64 x] w fun e w' => e = .returned (pairV (c.keeper x)) ∧ Mod (fun _ => False) w w' := by
  obtain ⟨n, l, wi, q, f, m, b, en⟩ := c
  have HV := h
  obtain ⟨A, cp, rfl, hl, hx, hw⟩ := h
  unfold maxLen at hl
  unfold Cf.val Cf.cells
  show Calls Tryd.prog 9 #[.agg #[.int .i64 n, .slice A l.length cp, .int .i64 wi, .int .i64 q, .int .i64 f, .int .i64 m, .int .i64 b, .int .i64 en], .int .i64 x] w fun e w' => e = .returned (pairV (Cf.keeper ⟨n, l, wi, q, f, m, b, en⟩ x)) ∧ Mod (fun _ => False) w w'
  have HG := Lib.hid (good_any ⟨n, l, wi, q, f, m, b, en⟩ (.slice A l.length cp) _ (HV.mod (S := fun _ => False) ((Mod.refl _ _).alloc (.cells #[.int .i64 n, .slice A l.length cp, .int .i64 wi, .int .i64 q, .int .i64 f, .int .i64 m, .int .i64 b, .int .i64 en] 26)) (fun _ _ x => x)))
  have HK : Hid (Cf.keeper ⟨n, l, wi, q, f, m, b, en⟩ x = if Cf.good ⟨n, l, wi, q, f, m, b, en⟩ && inB x 0 (l.length - 1) then firstOf (l.getD x.toNat 0) else (0, false)) := rfl
  have HX := Lib.hid hx
  have HW := Lib.hid hw
  clear HV hx hw
  unfold Cf.val Cf.cells at HG
  generalize Cf.good ⟨n, l, wi, q, f, m, b, en⟩ = gd at HG HK
  have HB : Hid ((w.alloc (.cells #[.int .i64 n, .slice A l.length cp, .int .i64 wi, .int .i64 q, .int .i64 f, .int .i64 m, .int .i64 b, .int .i64 en] 26)).heap[w.heap.size]? = some (.cells #[.int .i64 n, .slice A l.length cp, .int .i64 wi, .int .i64 q, .int .i64 f, .int .i64 m, .int .i64 b, .int .i64 en] 26 (0, 0))) := blk_new _ _
  have HM0 : Hid (Mod (fun _ => False) w (w.alloc (.cells #[.int .i64 n, .slice A l.length cp, .int .i64 wi, .int .i64 q, .int .i64 f, .int .i64 m, .int .i64 b, .int .i64 en] 26))) := (Mod.refl _ _).alloc _
  have HTb := Lib.hid hT
  clear hT
  cases gd
  · have hE : Hid (Cf.keeper ⟨n, l, wi, q, f, m, b, en⟩ x = (0, false)) := by show _ = _; rw [HK.out]; rfl
    go_enter Tryd.func9, Tryd.ntmps9
    go_wp2_with fail
    refine HG.out.mono ?_
    rintro e w1 ⟨rfl, hm⟩
    have HM := Lib.hid (HM0.out.trans hm)
    clear hm
    go_wp2
    go_ret2
    exact ⟨by rw [hE.out]; rfl, HM.out⟩
  · cases h1 : inB x 0 (l.length - 1)
    · have hE : Hid (Cf.keeper ⟨n, l, wi, q, f, m, b, en⟩ x = (0, false)) := by show _ = _; rw [HK.out, h1]; rfl
      have HI := Lib.hid (in_any x 0 (l.length - 1))
      rw [h1] at HI
      clear h1
      go_enter Tryd.func9, Tryd.ntmps9
      go_wp2_with fail
      refine HG.out.mono ?_
      rintro e w1 ⟨rfl, hm⟩
      have c1 := (blk_cell (hm.blk HB.out (fun x => x)) 1).trans rfl
      have HM := Lib.hid (HM0.out.trans hm)
      clear hm
      go_wp2_with fail
      refine (HI.out w1).mono ?_
      rintro e w2 ⟨rfl, rfl⟩
      go_wp2
      go_ret2
      exact ⟨by rw [hE.out]; rfl, HM.out⟩
    · have hE : Hid (Cf.keeper ⟨n, l, wi, q, f, m, b, en⟩ x = firstOf (l.getD x.toNat 0)) := by show _ = _; rw [HK.out, h1]; rfl
      have HI := Lib.hid (in_any x 0 (l.length - 1))
      have hb := inB_true h1
      rw [h1] at HI
      obtain ⟨k, rfl⟩ := Int.eq_ofNat_of_zero_le hb.1
      have hk : k < l.length := by omega
      have hi : (k : Int) < l.length := by omega
      obtain ⟨bs, os, rfl, hbs, hcs⟩ := HX.out.resolve_left (fun e => by have h : l = [] := e; rw [h] at hk; simp at hk)
      have HCK := Lib.hid (hcs k hk)
      have HBS := Lib.hid hbs
      have HWK : Hid (l.getD k 0 < 18446744073709551616) := HW.out _ (by rw [List.getD_eq_getElem?_getD, List.getElem?_eq_getElem hk]; exact List.getElem_mem hk)
      clear h1 hcs hbs HX hk hb
      simp only [Int.toNat_natCast] at hE
      generalize l.getD k 0 = s at HCK HWK hE
      have HH := Lib.hid (fun w => first_any s w HWK.out)
      generalize firstOf s = fs at HH hE
      obtain ⟨f1, f2⟩ := fs
      unfold pairV at HH
      go_enter Tryd.func9, Tryd.ntmps9
      go_wp2_with fail
      refine HG.out.mono ?_
      rintro e w1 ⟨rfl, hm⟩
      have c1 := (blk_cell (hm.blk HB.out (fun x => x)) 1).trans rfl
      have HT1 := Lib.hid (HTb.out.mod (HM0.out.trans hm) (fun x => x))
      have HM := Lib.hid (HM0.out.trans hm)
      have c2 : w1.cell? ⟨bs, os + k, none⟩ = some (.int .u64 (s : Int)) := by
        rw [World.cell?_of_block (HM.out.block bs HBS.out (fun x => x))]
        exact HCK.out
      clear hm
      go_wp2_with fail
      refine (HI.out w1).mono ?_
      rintro e w2 ⟨rfl, rfl⟩
      go_wp2_with fail
      refine (HH.out w1 HT1.out).mono ?_
      rintro e w2 ⟨rfl, rfl⟩
      go_wp2
      go_ret2
      exact ⟨by rw [hE.out]; rfl, HM.out⟩
end Go.Proofs.YtcnjllkmliphkaaDoor
