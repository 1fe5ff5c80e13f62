/-
  place.Keeps, place.Plain.
-/
import Derived.Test.YtpdpnhikcmpcdaaPlB
namespace Go.Proofs.Ytpdpnhikcmpcdaa
open Go.RowKit Go.Shoal

def Cf.keeps (c : Cf) (p v : Int) : Bool := c.good && inB v 0 (c.vars.length - 1) && inSet (c.vars.getD v.toNat 0) p

set_option maxRecDepth 100000 in
set_option maxHeartbeats 4000000 in
theorem keeps_any (c : Cf) (v : Value) (p x : Int) (w : World) (h : SetsIn w v c.vars) : Calls Try.prog 38 #[c.val v, .int .i64 p, .int .i64 x] w fun e w' => e = .returned (.bool (c.keeps p x)) ∧ Mod (fun _ => False) w w' := by
  obtain ⟨n, l, wi, q, f, m, b, en⟩ := c
  have HV := h
  obtain ⟨A, cp, rfl, hl, hx, hw⟩ := h
  unfold maxLen at hl
  unfold Cf.val Cf.cells
  show Calls Try.prog 38 #[.agg #[.int .i64 n, .slice A l.length cp, .int .i64 wi, .int .i64 q, .int .i64 f, .int .i64 m, .int .i64 b, .int .i64 en], .int .i64 p, .int .i64 x] w fun e w' => e = .returned (.bool (Cf.keeps ⟨n, l, wi, q, f, m, b, en⟩ p x)) ∧ Mod (fun _ => False) w w'
  have HG := Lib.hid (good_any ⟨n, l, wi, q, f, m, b, en⟩ (.slice A l.length cp) _ (HV.mod (S := fun _ => False) ((Mod.refl _ _).alloc (.cells #[.int .i64 n, .slice A l.length cp, .int .i64 wi, .int .i64 q, .int .i64 f, .int .i64 m, .int .i64 b, .int .i64 en] 30)) (fun _ _ x => x)))
  have HK : Hid (Cf.keeps ⟨n, l, wi, q, f, m, b, en⟩ p x = (Cf.good ⟨n, l, wi, q, f, m, b, en⟩ && inB x 0 (l.length - 1) && inSet (l.getD x.toNat 0) p)) := rfl
  have HX := Lib.hid hx
  have HW := Lib.hid hw
  clear HV hx hw
  unfold Cf.val Cf.cells at HG
  generalize Cf.good ⟨n, l, wi, q, f, m, b, en⟩ = gd at HG HK
  have HB : Hid ((w.alloc (.cells #[.int .i64 n, .slice A l.length cp, .int .i64 wi, .int .i64 q, .int .i64 f, .int .i64 m, .int .i64 b, .int .i64 en] 30)).heap[w.heap.size]? = some (.cells #[.int .i64 n, .slice A l.length cp, .int .i64 wi, .int .i64 q, .int .i64 f, .int .i64 m, .int .i64 b, .int .i64 en] 30 (0, 0))) := blk_new _ _
  have HM0 : Hid (Mod (fun _ => False) w (w.alloc (.cells #[.int .i64 n, .slice A l.length cp, .int .i64 wi, .int .i64 q, .int .i64 f, .int .i64 m, .int .i64 b, .int .i64 en] 30))) := (Mod.refl _ _).alloc _
  cases gd
  · have hE : Hid (Cf.keeps ⟨n, l, wi, q, f, m, b, en⟩ p x = false) := by show _ = _; rw [HK.out]; rfl
    go_enter Try.func38, Try.ntmps38
    go_wp2_with fail
    refine HG.out.mono ?_
    rintro e w1 ⟨rfl, hm⟩
    have HM := Lib.hid (HM0.out.trans hm)
    clear hm
    go_wp2
    go_ret
    exact ⟨by rw [hE.out]; rfl, HM.out⟩
  · cases h1 : inB x 0 (l.length - 1)
    · have hE : Hid (Cf.keeps ⟨n, l, wi, q, f, m, b, en⟩ p x = false) := by show _ = _; rw [HK.out, h1]; rfl
      have HI := Lib.hid (in_any x 0 (l.length - 1))
      rw [h1] at HI
      clear h1
      go_enter Try.func38, Try.ntmps38
      go_wp2_with fail
      refine HG.out.mono ?_
      rintro e w1 ⟨rfl, hm⟩
      have c1 := (blk_cell (hm.blk HB.out (fun x => x)) 1).trans rfl
      have HM := Lib.hid (HM0.out.trans hm)
      clear hm
      go_wp2_with fail
      refine (HI.out w1).mono ?_
      rintro e w2 ⟨rfl, rfl⟩
      go_wp2
      go_ret
      exact ⟨by rw [hE.out]; rfl, HM.out⟩
    · have hE : Hid (Cf.keeps ⟨n, l, wi, q, f, m, b, en⟩ p x = inSet (l.getD x.toNat 0) p) := by show _ = _; rw [HK.out, h1]; rfl
      have HI := Lib.hid (in_any x 0 (l.length - 1))
      have hb := inB_true h1
      rw [h1] at HI
      obtain ⟨k, rfl⟩ := Int.eq_ofNat_of_zero_le hb.1
      have hk : k < l.length := by omega
      have hi : (k : Int) < l.length := by omega
      obtain ⟨bs, os, rfl, hbs, hcs⟩ := HX.out.resolve_left (fun e => by have h : l = [] := e; rw [h] at hk; simp at hk)
      have HCK := Lib.hid (hcs k hk)
      have HBS := Lib.hid hbs
      have HWK : Hid (l.getD k 0 < 18446744073709551616) := HW.out _ (by rw [List.getD_eq_getElem?_getD, List.getElem?_eq_getElem hk]; exact List.getElem_mem hk)
      clear h1 hcs hbs HX hk hb
      simp only [Int.toNat_natCast] at hE
      generalize l.getD k 0 = s at HCK HWK hE
      have HH := Lib.hid (fun w => has_any s p w HWK.out)
      go_enter Try.func38, Try.ntmps38
      go_wp2_with fail
      refine HG.out.mono ?_
      rintro e w1 ⟨rfl, hm⟩
      have c1 := (blk_cell (hm.blk HB.out (fun x => x)) 1).trans rfl
      have HM := Lib.hid (HM0.out.trans hm)
      have c2 : w1.cell? ⟨bs, os + k, none⟩ = some (.int .u64 (s : Int)) := by
        rw [World.cell?_of_block (HM.out.block bs HBS.out (fun x => x))]
        exact HCK.out
      clear hm
      go_wp2_with fail
      refine (HI.out w1).mono ?_
      rintro e w2 ⟨rfl, rfl⟩
      go_wp2_with fail
      refine (HH.out w1).mono ?_
      rintro e w2 ⟨rfl, rfl⟩
      go_wp2
      go_ret
      exact ⟨by rw [hE.out]; rfl, HM.out⟩

/-- Plain settings. -/
def plainCf (n e : Int) : Cf := ⟨n, [if n ≤ 64 then allOf n else 0], 2, 3, 2, 8, 64, e⟩
/-- What Plain hands back. -/
def PlainSays (n e : Int) (w : World) (d : Ending) (w' : World) : Prop := ∃ v, d = .returned ((plainCf n e).val v) ∧ SetsIn w' v (plainCf n e).vars ∧ Mod (fun _ => False) w w'
theorem SetsIn.one {w : World} {g s e c : Nat} (hb : w.heap[g]? = some (.cells #[.int .u64 (s : Int)] e (0, 0))) (hs : s < 18446744073709551616) : SetsIn w (.slice (some ⟨g, 0, none⟩) 1 c) [s] := by
  refine ⟨_, c, rfl, by unfold maxLen; simp, .inr ⟨g, 0, rfl, blk_lt hb, fun i hi => ?_⟩, fun t ht => ?_⟩
  · obtain rfl : i = 0 := by simpa using hi
    exact (blk_cell hb 0).trans rfl
  · obtain rfl : t = s := by simpa using ht
    exact hs
set_option maxHeartbeats 1000000 in
theorem plain_any (n e : Int) (w : World) : Calls Try.prog 9 #[.int .i64 n, .int .i64 e] w (PlainSays n e w) := by
  by_cases h : n ≤ 64
  · have HA := Lib.hid (all_any n)
    have HP : Hid (plainCf n e = ⟨n, [allOf n], 2, 3, 2, 8, 64, e⟩) := by show _ = _; unfold plainCf; rw [if_pos h]
    have HL := Lib.hid (allOf_lt n)
    generalize allOf n = a at HA HP HL
    go_enter Try.func9, Try.ntmps9
    go_wp2_with fail
    refine (HA.out _).mono ?_
    rintro e w1 ⟨rfl, rfl⟩
    go_wp2
    refine bodyPost_ret (v := .agg #[.int .i64 n, .slice (some ⟨w.heap.size + 1, 0, none⟩) 1 1, .int .i64 2, .int .i64 3, .int .i64 2, .int .i64 8, .int .i64 64, .int .i64 e]) (by simp [results, Try.results9, go_sem]) rfl ?_
    refine ⟨.slice (some ⟨w.heap.size + 1, 0, none⟩) 1 1, by rw [HP.out]; rfl, ?_, ((Mod.refl _ _).alloc _).alloc _⟩
    rw [HP.out]
    refine SetsIn.one (e := 68) ?_ HL.out
    have h := blk_new (w.alloc (.cells #[.int .i64 n, .slice (some ⟨w.heap.size + 1, 0, none⟩) 1 1, .int .i64 2, .int .i64 3, .int .i64 2, .int .i64 8, .int .i64 64, .int .i64 e] 30)) (.cells #[.int .u64 (a : Int)] 68)
    rw [World.size_alloc] at h
    exact h
  · have HP : Hid (plainCf n e = ⟨n, [0], 2, 3, 2, 8, 64, e⟩) := by show _ = _; unfold plainCf; rw [if_neg h]
    go_enter Try.func9, Try.ntmps9
    go_wp2
    refine bodyPost_ret (v := .agg #[.int .i64 n, .slice (some ⟨w.heap.size + 1, 0, none⟩) 1 1, .int .i64 2, .int .i64 3, .int .i64 2, .int .i64 8, .int .i64 64, .int .i64 e]) (by simp [results, Try.results9, go_sem]) rfl ?_
    refine ⟨.slice (some ⟨w.heap.size + 1, 0, none⟩) 1 1, by rw [HP.out]; rfl, ?_, ((Mod.refl _ _).alloc _).alloc _⟩
    rw [HP.out]
    refine SetsIn.one (e := 68) ?_ (by decide)
    have h := blk_new (w.alloc (.cells #[.int .i64 n, .slice (some ⟨w.heap.size + 1, 0, none⟩) 1 1, .int .i64 2, .int .i64 3, .int .i64 2, .int .i64 8, .int .i64 64, .int .i64 e] 30)) (.cells #[.int .u64 0] 68)
    rw [World.size_alloc] at h
    exact h

/-! What plain settings are good for. -/
theorem plain_good (n e : Int) : (plainCf n e).good = (inB n 1 16 && inB e 1 2) := by
  cases h : inB n 1 16
  · simp [plainCf, Cf.good, h]
  · obtain ⟨h1, h2⟩ := inB_true h
    have ha : allOf n ≠ 0 := by
      intro e
      have := testBit_allOf n 0
      rw [e, Nat.zero_testBit] at this
      have := this.symm
      simp at this
      omega
    have hl : lessOf (allOf n) (allOf n) = 0 := (less_zero (allOf_lt n) (allOf_lt n)).2 (fun _ _ h => h)
    have hs : someB (allOf n) n = true := by simp [someB, ha, hl]
    have h3 : n ≤ 64 := by omega
    simp [plainCf, Cf.good, h, h3, hs]
    intro _
    decide

end Go.Proofs.Ytpdpnhikcmpcdaa
