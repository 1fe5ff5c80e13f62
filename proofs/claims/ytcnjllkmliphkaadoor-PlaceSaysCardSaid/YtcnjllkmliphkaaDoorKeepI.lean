/-
  The walk of PlaceSays.
-/
import Derived.Test.YtcnjllkmliphkaaDoorKeepG
import Derived.Test.YtcnjllkmliphkaaDoorKeepE
namespace Go.Proofs.YtcnjllkmliphkaaDoor
open Go.RowKit Go.Shoal

/-- The settings twice: as they came, and as the reference's own. -/
def Two (w0 : World) (B D : Nat) (c : Cf) (v u : Value) (w : World) : Prop := Held w0 B c v w ∧ w.heap[D]? = some (.cells (c.cells u) 37 (0, 0)) ∧ SetsIn w u c.vars
theorem Two.mod {w0 w w' : World} {B D : Nat} {c : Cf} {v u : Value} (h : Two w0 B D c v u w) (hm : Mod (fun _ => False) w w') : Two w0 B D c v u w' :=
  ⟨h.1.mod hm, hm.blk h.2.1 (fun x => x), h.2.2.mod hm (fun _ _ x => x)⟩
def TwoC (w : World) (B D : Nat) (n : Int) (l : List Nat) (wi q f m b en : Int) (v u : Value) (W : World) : Prop := Two w B D ⟨n, l, wi, q, f, m, b, en⟩ (v) (u) W ∧ W.cell? ⟨B, 0, none⟩ = some (.int .i64 n) ∧ W.cell? ⟨B, 1, none⟩ = some (v) ∧ W.cell? ⟨B, 2, none⟩ = some (.int .i64 wi) ∧ W.cell? ⟨B, 3, none⟩ = some (.int .i64 q) ∧ W.cell? ⟨B, 4, none⟩ = some (.int .i64 f) ∧ W.cell? ⟨B, 5, none⟩ = some (.int .i64 m) ∧ W.cell? ⟨B, 6, none⟩ = some (.int .i64 b) ∧ W.cell? ⟨B, 7, none⟩ = some (.int .i64 en) ∧ W.cell? ⟨D, 0, none⟩ = some (.int .i64 n) ∧ W.cell? ⟨D, 1, none⟩ = some (u) ∧ W.cell? ⟨D, 2, none⟩ = some (.int .i64 wi) ∧ W.cell? ⟨D, 3, none⟩ = some (.int .i64 q) ∧ W.cell? ⟨D, 4, none⟩ = some (.int .i64 f) ∧ W.cell? ⟨D, 5, none⟩ = some (.int .i64 m) ∧ W.cell? ⟨D, 6, none⟩ = some (.int .i64 b) ∧ W.cell? ⟨D, 7, none⟩ = some (.int .i64 en)
theorem Two.cells {w0 w : World} {B D : Nat} {n wi q f m b en : Int} {l : List Nat} {v u : Value} (h : Two w0 B D ⟨n, l, wi, q, f, m, b, en⟩ v u w) : TwoC w0 B D n l wi q f m b en v u w :=
  ⟨h, (blk_cell h.1.1 0).trans rfl, (blk_cell h.1.1 1).trans rfl, (blk_cell h.1.1 2).trans rfl, (blk_cell h.1.1 3).trans rfl, (blk_cell h.1.1 4).trans rfl, (blk_cell h.1.1 5).trans rfl, (blk_cell h.1.1 6).trans rfl, (blk_cell h.1.1 7).trans rfl, (blk_cell h.2.1 0).trans rfl, (blk_cell h.2.1 1).trans rfl, (blk_cell h.2.1 2).trans rfl, (blk_cell h.2.1 3).trans rfl, (blk_cell h.2.1 4).trans rfl, (blk_cell h.2.1 5).trans rfl, (blk_cell h.2.1 6).trans rfl, (blk_cell h.2.1 7).trans rfl⟩
theorem TwoC.mod {w' : World} {w0 w : World} {B D : Nat} {n wi q f m b en : Int} {l : List Nat} {v u : Value} (h : TwoC w0 B D n l wi q f m b en v u w) (hm : Mod (fun _ => False) w w') : TwoC w0 B D n l wi q f m b en v u w' := (h.1.mod hm).cells
theorem TwoC.alloc {w0 w : World} {B D : Nat} {n wi q f m b en : Int} {l : List Nat} {v u : Value} (h : TwoC w0 B D n l wi q f m b en v u w) (o : Obj) : TwoC w0 B D n l wi q f m b en v u (w.alloc o) := h.mod ((Mod.refl _ _).alloc o)
theorem TwoC.drew {w0 w : World} {B D : Nat} {n wi q f m b en : Int} {l : List Nat} {v u : Value} (h : TwoC w0 B D n l wi q f m b en v u w) : TwoC w0 B D n l wi q f m b en v u w.drew := h.mod ((Mod.refl _ _).drew)
theorem TwoC.modOf {w0 w : World} {B D : Nat} {n wi q f m b en : Int} {l : List Nat} {v u : Value} (h : TwoC w0 B D n l wi q f m b en v u w) : Mod (fun _ => False) w0 w := h.1.1.2.2

set_option maxHeartbeats 2000000 in
theorem ps_long (c : Cf) (v : Value) (p x : Int) (t : Nat) (w : World) (h : SetsIn w v c.vars) (hl : 30 < c.vars.length) :
    Calls Tryd.prog 4 #[c.val v, .int .i64 p, .int .i64 x, .int .u64 t] w fun d w' => d = .returned (.bool true) ∧ Mod (fun _ => False) w w' := by
  obtain ⟨n, l, wi, q, f, m, b, en⟩ := c
  obtain ⟨A, cp, rfl, hm, hx, hw⟩ := h
  unfold maxLen at hm
  have h1 : 30 < l.length := hl
  clear hx hw hl
  unfold Cf.val Cf.cells
  show Calls Tryd.prog 4 #[.agg #[.int .i64 n, .slice A l.length cp, .int .i64 wi, .int .i64 q, .int .i64 f, .int .i64 m, .int .i64 b, .int .i64 en], .int .i64 p, .int .i64 x, .int .u64 t] w _
  have hm2 : l.length ≤ 2 ^ 63 - 1 := hm
  have HB : Hid ((w.alloc (.cells #[.int .i64 n, .slice A l.length cp, .int .i64 wi, .int .i64 q, .int .i64 f, .int .i64 m, .int .i64 b, .int .i64 en] 26)).heap[w.heap.size]? = some (.cells #[.int .i64 n, .slice A l.length cp, .int .i64 wi, .int .i64 q, .int .i64 f, .int .i64 m, .int .i64 b, .int .i64 en] 26 (0, 0))) := blk_new _ _
  have HM0 : Hid (Mod (fun _ => False) w (w.alloc (.cells #[.int .i64 n, .slice A l.length cp, .int .i64 wi, .int .i64 q, .int .i64 f, .int .i64 m, .int .i64 b, .int .i64 en] 26))) := (Mod.refl _ _).alloc _
  clear hm
  go_enter Tryd.func4, Tryd.ntmps4
  go_wp2_with fail
  refine (awake_calls _).mono ?_
  rintro d w1 ⟨rfl, hm1⟩
  have c1 := (blk_cell (hm1.blk HB.out (fun x => x)) 1).trans rfl
  have HM1 := Lib.hid (HM0.out.trans hm1)
  clear hm1
  go_wp2
  go_ret
  exact ⟨rfl, HM1.out⟩

set_option maxRecDepth 100000 in
set_option maxHeartbeats 16000000 in
theorem ps_short (c : Cf) (v : Value) (p x : Int) (t : Nat) (w : World) (h : SetsIn w v c.vars) (hT : Tab w) (hl : c.vars.length ≤ 30) (ht : t < 18446744073709551616) :
    Calls Tryd.prog 4 #[c.val v, .int .i64 p, .int .i64 x, .int .u64 t] w fun d w' => d = .returned (.bool true) ∧ Mod (fun _ => False) w w' := by
  obtain ⟨n, l, wi, q, f, m, b, en⟩ := c
  have HV := h
  obtain ⟨A, cp, rfl, hm, hx, hw⟩ := h
  unfold maxLen at hm
  have h1 : l.length ≤ 30 := hl
  have HTb := Lib.hid hT
  clear hx hw hl hT
  unfold Cf.val Cf.cells
  show Calls Tryd.prog 4 #[.agg #[.int .i64 n, .slice A l.length cp, .int .i64 wi, .int .i64 q, .int .i64 f, .int .i64 m, .int .i64 b, .int .i64 en], .int .i64 p, .int .i64 x, .int .u64 t] w _
  have HHB : Hid (HeldC w w.heap.size n l wi q f m b en (.slice A l.length cp) (w.alloc (.cells #[.int .i64 n, .slice A l.length cp, .int .i64 wi, .int .i64 q, .int .i64 f, .int .i64 m, .int .i64 b, .int .i64 en] 26))) :=
    Held.cells ⟨blk_new _ _, HV.mod (S := fun _ => False) ((Mod.refl _ _).alloc _) (fun _ _ x => x), (Mod.refl _ _).alloc _⟩
  have HOw : Hid (∀ W, HeldC w w.heap.size n l wi q f m b en (.slice A l.length cp) W → Calls Tryd.prog 12 #[.agg #[.int .i64 n, .slice A l.length cp, .int .i64 wi, .int .i64 q, .int .i64 f, .int .i64 m, .int .i64 b, .int .i64 en]] W fun d w' => ∃ A2 cp2, d = .returned (.agg #[.int .i64 n, .slice A2 l.length cp2, .int .i64 wi, .int .i64 q, .int .i64 f, .int .i64 m, .int .i64 b, .int .i64 en]) ∧ SetsIn w' (.slice A2 l.length cp2) l ∧ HeldC w w.heap.size n l wi q f m b en (.slice A l.length cp) w') :=
    fun W h => (own_any ⟨n, l, wi, q, f, m, b, en⟩ (.slice A l.length cp) W h.1.2.1 h1).mono fun _ _ ⟨u, x, y, z⟩ => by
      obtain ⟨A2, cp2, rfl, k1, k2, k3⟩ := y
      exact ⟨A2, cp2, x, ⟨A2, cp2, rfl, k1, k2, k3⟩, h.mod z⟩
  go_enter Tryd.func4, Tryd.ntmps4
  go_wp2_with fail
  refine (awake_calls _).mono ?_
  rintro d w1 ⟨rfl, hm1⟩
  have HH := Lib.hid (HHB.out.mod hm1)
  clear hm1 HHB
  have hHx := HH.out.2
  go_wp2_with fail
  refine (HOw.out _ HH.out).mono ?_
  rintro d w2 ⟨A2, cp2, rfl, hs2, hh2⟩
  clear hHx HH
  have HTW : Hid (TwoC w w.heap.size w2.heap.size n l wi q f m b en (.slice A l.length cp) (.slice A2 l.length cp2) (w2.alloc (.cells #[.int .i64 n, .slice A2 l.length cp2, .int .i64 wi, .int .i64 q, .int .i64 f, .int .i64 m, .int .i64 b, .int .i64 en] 37))) :=
    Two.cells ⟨(hh2.1.mod ((Mod.refl _ _).alloc _)), blk_new _ _, hs2.mod (S := fun _ => False) ((Mod.refl _ _).alloc _) (fun _ _ x => x)⟩
  clear hh2 hs2 HOw HV
  have HKr : Hid (∀ B D W, TwoC w B D n l wi q f m b en (.slice A l.length cp) (.slice A2 l.length cp2) W → Calls Tryd.prog 9 #[.agg #[.int .i64 n, .slice A l.length cp, .int .i64 wi, .int .i64 q, .int .i64 f, .int .i64 m, .int .i64 b, .int .i64 en] , .int .i64 x] W fun d w' => d = .returned (pairV (Cf.keeper ⟨n, l, wi, q, f, m, b, en⟩ x)) ∧ TwoC w B D n l wi q f m b en (.slice A l.length cp) (.slice A2 l.length cp2) w') :=
    fun B D W h => (keeper_any ⟨n, l, wi, q, f, m, b, en⟩ (.slice A l.length cp) x W h.1.1.2.1 (HTb.out.mod h.modOf (fun x => x))).mono fun _ _ ⟨x, y⟩ => ⟨x, h.mod y⟩
  have HRr : Hid (∀ B D W, TwoC w B D n l wi q f m b en (.slice A l.length cp) (.slice A2 l.length cp2) W → Calls Tryd.prog 13 #[.agg #[.int .i64 n, .slice A2 l.length cp2, .int .i64 wi, .int .i64 q, .int .i64 f, .int .i64 m, .int .i64 b, .int .i64 en] , .int .i64 x] W fun d w' => d = .returned (pairV (Cf.keeper ⟨n, l, wi, q, f, m, b, en⟩ x)) ∧ TwoC w B D n l wi q f m b en (.slice A l.length cp) (.slice A2 l.length cp2) w') :=
    fun B D W h => (rkeeper_any ⟨n, l, wi, q, f, m, b, en⟩ (.slice A2 l.length cp2) x W h.1.2.2).mono fun _ _ ⟨x, y⟩ => ⟨x, h.mod y⟩
  have HG : Hid (∀ B D W, TwoC w B D n l wi q f m b en (.slice A l.length cp) (.slice A2 l.length cp2) W → Calls Tryd.prog 8 #[.agg #[.int .i64 n, .slice A l.length cp, .int .i64 wi, .int .i64 q, .int .i64 f, .int .i64 m, .int .i64 b, .int .i64 en] ] W fun d w' => d = .returned (.bool (Cf.good ⟨n, l, wi, q, f, m, b, en⟩)) ∧ TwoC w B D n l wi q f m b en (.slice A l.length cp) (.slice A2 l.length cp2) w') :=
    fun B D W h => (good_any ⟨n, l, wi, q, f, m, b, en⟩ (.slice A l.length cp) W h.1.1.2.1).mono fun _ _ ⟨x, y⟩ => ⟨x, h.mod y⟩
  have HRg : Hid (∀ B D W, TwoC w B D n l wi q f m b en (.slice A l.length cp) (.slice A2 l.length cp2) W → Calls Tryd.prog 14 #[.agg #[.int .i64 n, .slice A2 l.length cp2, .int .i64 wi, .int .i64 q, .int .i64 f, .int .i64 m, .int .i64 b, .int .i64 en] ] W fun d w' => d = .returned (.bool (Cf.good ⟨n, l, wi, q, f, m, b, en⟩)) ∧ TwoC w B D n l wi q f m b en (.slice A l.length cp) (.slice A2 l.length cp2) w') :=
    fun B D W h => (rgood_any ⟨n, l, wi, q, f, m, b, en⟩ (.slice A2 l.length cp2) W h.1.2.2).mono fun _ _ ⟨x, y⟩ => ⟨x, h.mod y⟩
  have HKp : Hid (∀ B D W, TwoC w B D n l wi q f m b en (.slice A l.length cp) (.slice A2 l.length cp2) W → Calls Tryd.prog 10 #[.agg #[.int .i64 n, .slice A l.length cp, .int .i64 wi, .int .i64 q, .int .i64 f, .int .i64 m, .int .i64 b, .int .i64 en] , .int .i64 p, .int .i64 x] W fun d w' => d = .returned (.bool (Cf.keeps ⟨n, l, wi, q, f, m, b, en⟩ p x)) ∧ TwoC w B D n l wi q f m b en (.slice A l.length cp) (.slice A2 l.length cp2) w') :=
    fun B D W h => (keeps_any ⟨n, l, wi, q, f, m, b, en⟩ (.slice A l.length cp) p x W h.1.1.2.1).mono fun _ _ ⟨x, y⟩ => ⟨x, h.mod y⟩
  have HRk : Hid (∀ B D W, TwoC w B D n l wi q f m b en (.slice A l.length cp) (.slice A2 l.length cp2) W → Calls Tryd.prog 15 #[.agg #[.int .i64 n, .slice A2 l.length cp2, .int .i64 wi, .int .i64 q, .int .i64 f, .int .i64 m, .int .i64 b, .int .i64 en] , .int .i64 p, .int .i64 x] W fun d w' => d = .returned (.bool (Cf.keeps ⟨n, l, wi, q, f, m, b, en⟩ p x)) ∧ TwoC w B D n l wi q f m b en (.slice A l.length cp) (.slice A2 l.length cp2) w') :=
    fun B D W h => (rkeeps_any ⟨n, l, wi, q, f, m, b, en⟩ (.slice A2 l.length cp2) p x W h.1.2.2).mono fun _ _ ⟨x, y⟩ => ⟨x, h.mod y⟩
  have HMy : Hid (∀ B D W, TwoC w B D n l wi q f m b en (.slice A l.length cp) (.slice A2 l.length cp2) W → Calls Tryd.prog 11 #[.agg #[.int .i64 n, .slice A l.length cp, .int .i64 wi, .int .i64 q, .int .i64 f, .int .i64 m, .int .i64 b, .int .i64 en] , .int .i64 p, .int .u64 t] W fun d w' => d = .returned (.bool (Cf.may ⟨n, l, wi, q, f, m, b, en⟩ p t)) ∧ TwoC w B D n l wi q f m b en (.slice A l.length cp) (.slice A2 l.length cp2) w') :=
    fun B D W h => (may_any ⟨n, l, wi, q, f, m, b, en⟩ (.slice A l.length cp) p t W h.1.1.2.1 ht).mono fun _ _ ⟨x, y⟩ => ⟨x, h.mod y⟩
  have HRm : Hid (∀ B D W, TwoC w B D n l wi q f m b en (.slice A l.length cp) (.slice A2 l.length cp2) W → Calls Tryd.prog 16 #[.agg #[.int .i64 n, .slice A2 l.length cp2, .int .i64 wi, .int .i64 q, .int .i64 f, .int .i64 m, .int .i64 b, .int .i64 en] , .int .i64 p, .int .u64 t] W fun d w' => d = .returned (.bool (Cf.may ⟨n, l, wi, q, f, m, b, en⟩ p t)) ∧ TwoC w B D n l wi q f m b en (.slice A l.length cp) (.slice A2 l.length cp2) w') :=
    fun B D W h => (rmay_any ⟨n, l, wi, q, f, m, b, en⟩ (.slice A2 l.length cp2) p t ht W h.1.2.2).mono fun _ _ ⟨x, y⟩ => ⟨x, h.mod y⟩
  clear HTb
  generalize Cf.keeper ⟨n, l, wi, q, f, m, b, en⟩ x = kp at HKr HRr
  obtain ⟨a, ok⟩ := kp
  unfold pairV at HKr HRr
  generalize Cf.good ⟨n, l, wi, q, f, m, b, en⟩ = gd at HG HRg
  generalize Cf.keeps ⟨n, l, wi, q, f, m, b, en⟩ p x = ks at HKp HRk
  generalize Cf.may ⟨n, l, wi, q, f, m, b, en⟩ p t = my at HMy HRm
  have q1 : (gd == gd) = true := by simp
  have q2 : (ks == ks) = true := by simp
  have q3 : (my == my) = true := by simp
  have q4 : (a == a) = true := by simp
  have q5 : (ok == ok) = true := by simp
  have hHx := HTW.out.2
  go_wp2_with fail
  refine (HKr.out _ _ _ HTW.out).mono ?_
  rintro d w3 ⟨rfl, hh3⟩
  clear hHx HTW
  generalize w2.heap.size = D at hh3 ⊢
  generalize w.heap.size = B at hh3 ⊢
  have HH := Lib.hid hh3
  clear hh3 HKr
  have hHx := HH.out.2
  go_wp2_with fail
  refine (HRr.out B D _ HH.out).mono ?_
  rintro d w4 ⟨rfl, hh4⟩
  clear hHx HH
  have HH := Lib.hid hh4
  clear hh4 HRr
  go_wp2
  have HG := Lib.hid (HG.out B D)
  have HRg := Lib.hid (HRg.out B D)
  have HKp := Lib.hid (HKp.out B D)
  have HRk := Lib.hid (HRk.out B D)
  have HMy := Lib.hid (HMy.out B D)
  have HRm := Lib.hid (HRm.out B D)
  unfold TwoC at HH HG HRg HKp HRk HMy HRm
  have hH := HH.out
  clear HH
  refine wp_region_held_drew (S := fun w' => Two w B D ⟨n, l, wi, q, f, m, b, en⟩ (.slice A l.length cp) (.slice A2 l.length cp2) w' ∧ w'.cell? ⟨B, 0, none⟩ = some (.int .i64 n) ∧ w'.cell? ⟨B, 1, none⟩ = some (.slice A l.length cp) ∧ w'.cell? ⟨B, 2, none⟩ = some (.int .i64 wi) ∧ w'.cell? ⟨B, 3, none⟩ = some (.int .i64 q) ∧ w'.cell? ⟨B, 4, none⟩ = some (.int .i64 f) ∧ w'.cell? ⟨B, 5, none⟩ = some (.int .i64 m) ∧ w'.cell? ⟨B, 6, none⟩ = some (.int .i64 b) ∧ w'.cell? ⟨B, 7, none⟩ = some (.int .i64 en) ∧ w'.cell? ⟨D, 0, none⟩ = some (.int .i64 n) ∧ w'.cell? ⟨D, 1, none⟩ = some (.slice A2 l.length cp2) ∧ w'.cell? ⟨D, 2, none⟩ = some (.int .i64 wi) ∧ w'.cell? ⟨D, 3, none⟩ = some (.int .i64 q) ∧ w'.cell? ⟨D, 4, none⟩ = some (.int .i64 f) ∧ w'.cell? ⟨D, 5, none⟩ = some (.int .i64 m) ∧ w'.cell? ⟨D, 6, none⟩ = some (.int .i64 b) ∧ w'.cell? ⟨D, 7, none⟩ = some (.int .i64 en)) (by kernel_rfl) ?_ (fun hHeld => ?_)
  · exact TwoC.drew hH
  refine wpAnyH_take (i := 0) (oi := { dst := some 34, op := Op.load 26 (Operand.tmp 4), type := 26, pos := "law.go:69", after := #[], guard := none }) (v := ?_) rfl (by kernel_rfl) (by kernel_rfl) (by kernel_rfl) (fun _ _ _ h => h) (Or.inl ⟨by rfl, ?_⟩) (by assumption) ?_
  rotate_left
  · intro w hSw; (try dsimp only at hSw); go_simp <;> with_reducible rfl
  try simp only [Act.put, List.setIfInBounds_toArray, List.set_cons_zero, List.set_cons_succ]
  refine wpAnyH_take (i := 2) (oi := { dst := some 36, op := Op.load 37 (Operand.tmp 9), type := 37, pos := "law.go:69", after := #[], guard := none }) (v := ?_) rfl (by kernel_rfl) (by kernel_rfl) (by kernel_rfl) (fun _ _ _ h => h) (Or.inl ⟨by rfl, ?_⟩) (by assumption) ?_
  rotate_left
  · intro w hSw; (try dsimp only at hSw); go_simp <;> with_reducible rfl
  try simp only [Act.put, List.setIfInBounds_toArray, List.set_cons_zero, List.set_cons_succ]
  refine wpAnyH_ready (rs := [1]) (by kernel_rfl) (by simp) ?_
  refine AllReadyH.cons (o := { dst := some 35, op := Op.call { callee := Callee.value (Operand.func 8), args := #[Operand.tmp 34], argTypes := #[26] }, type := 4, pos := "law.go:69", after := #[{ on := 0, ground := Ground.data }], guard := none }) rfl (fun K hK => ?_) AllReadyH.nil
  go_simp
  (first | (go_at_call 8; refine (HG.out _ (by assumption)).mono ?_; rintro d w' ⟨rfl, hS⟩) | (go_at_call 14; refine (HRg.out _ (by assumption)).mono ?_; rintro d w' ⟨rfl, hS⟩) | (go_at_call 10; refine (HKp.out _ (by assumption)).mono ?_; rintro d w' ⟨rfl, hS⟩) | (go_at_call 15; refine (HRk.out _ (by assumption)).mono ?_; rintro d w' ⟨rfl, hS⟩) | (go_at_call 11; refine (HMy.out _ (by assumption)).mono ?_; rintro d w' ⟨rfl, hS⟩) | (go_at_call 16; refine (HRm.out _ (by assumption)).mono ?_; rintro d w' ⟨rfl, hS⟩))
  refine hK.out _ _ ?_ (fun hHeld => ?_)
  · (first | assumption | exact (TwoC.alloc (by assumption) _) | exact (TwoC.drew (by assumption)))
  clear hK K
  try simp only [Act.put, List.setIfInBounds_toArray, List.set_cons_zero, List.set_cons_succ]
  refine wpAnyH_ready (rs := [3]) (by kernel_rfl) (by simp) ?_
  refine AllReadyH.cons (o := { dst := some 37, op := Op.call { callee := Callee.value (Operand.func 14), args := #[Operand.tmp 36], argTypes := #[37] }, type := 4, pos := "law.go:69", after := #[{ on := 2, ground := Ground.data }, { on := 1, ground := Ground.chain }], guard := none }) rfl (fun K hK => ?_) AllReadyH.nil
  go_simp
  (first | (go_at_call 8; refine (HG.out _ (by assumption)).mono ?_; rintro d w' ⟨rfl, hS⟩) | (go_at_call 14; refine (HRg.out _ (by assumption)).mono ?_; rintro d w' ⟨rfl, hS⟩) | (go_at_call 10; refine (HKp.out _ (by assumption)).mono ?_; rintro d w' ⟨rfl, hS⟩) | (go_at_call 15; refine (HRk.out _ (by assumption)).mono ?_; rintro d w' ⟨rfl, hS⟩) | (go_at_call 11; refine (HMy.out _ (by assumption)).mono ?_; rintro d w' ⟨rfl, hS⟩) | (go_at_call 16; refine (HRm.out _ (by assumption)).mono ?_; rintro d w' ⟨rfl, hS⟩))
  refine hK.out _ _ ?_ (fun hHeld => ?_)
  · (first | assumption | exact (TwoC.alloc (by assumption) _) | exact (TwoC.drew (by assumption)))
  clear hK K
  try simp only [Act.put, List.setIfInBounds_toArray, List.set_cons_zero, List.set_cons_succ]
  refine wpAnyH_take (i := 4) (oi := { dst := some 38, op := Op.binOp BinOp.eql 4 (Operand.tmp 35) (Operand.tmp 37) 4, type := 4, pos := "law.go:69", after := #[{ on := 1, ground := Ground.data }, { on := 3, ground := Ground.data }], guard := none }) (v := ?_) rfl (by kernel_rfl) (by kernel_rfl) (by kernel_rfl) (fun _ _ _ h => h) (Or.inl ⟨by rfl, ?_⟩) (by assumption) ?_
  rotate_left
  · intro w hSw; (try dsimp only at hSw); go_simp <;> with_reducible rfl
  try simp only [Act.put, List.setIfInBounds_toArray, List.set_cons_zero, List.set_cons_succ]
  refine wpAnyH_take (i := 5) (oi := { dst := some 39, op := Op.move (Operand.tmp 38), type := 4, pos := "law.go:69", after := #[{ on := 4, ground := Ground.data }, { on := 3, ground := Ground.chain }], guard := none }) (v := ?_) rfl (by kernel_rfl) (by kernel_rfl) (by kernel_rfl) (fun _ _ _ h => h) (Or.inl ⟨by rfl, ?_⟩) (by assumption) ?_
  rotate_left
  · intro w hSw; (try dsimp only at hSw); go_simp <;> with_reducible rfl
  try simp only [Act.put, List.setIfInBounds_toArray, List.set_cons_zero, List.set_cons_succ]
  refine wpAnyH_take (i := 6) (oi := { dst := some 40, op := Op.load 26 (Operand.tmp 4), type := 26, pos := "law.go:69", after := #[{ on := 5, ground := Ground.guard }], guard := some (5, true) }) (v := ?_) rfl (by kernel_rfl) (by kernel_rfl) (by kernel_rfl) (fun _ _ _ h => h) (Or.inl ⟨by rfl, ?_⟩) (by assumption) ?_
  rotate_left
  · intro w hSw; (try dsimp only at hSw); go_simp <;> with_reducible rfl
  try simp only [Act.put, List.setIfInBounds_toArray, List.set_cons_zero, List.set_cons_succ]
  refine wpAnyH_take (i := 7) (oi := { dst := some 41, op := Op.move (Operand.tmp 1), type := 3, pos := "law.go:69", after := #[{ on := 5, ground := Ground.guard }], guard := some (5, true) }) (v := ?_) rfl (by kernel_rfl) (by kernel_rfl) (by kernel_rfl) (fun _ _ _ h => h) (Or.inl ⟨by rfl, ?_⟩) (by assumption) ?_
  rotate_left
  · intro w hSw; (try dsimp only at hSw); go_simp <;> with_reducible rfl
  try simp only [Act.put, List.setIfInBounds_toArray, List.set_cons_zero, List.set_cons_succ]
  refine wpAnyH_take (i := 8) (oi := { dst := some 42, op := Op.move (Operand.tmp 2), type := 3, pos := "law.go:69", after := #[{ on := 5, ground := Ground.guard }], guard := some (5, true) }) (v := ?_) rfl (by kernel_rfl) (by kernel_rfl) (by kernel_rfl) (fun _ _ _ h => h) (Or.inl ⟨by rfl, ?_⟩) (by assumption) ?_
  rotate_left
  · intro w hSw; (try dsimp only at hSw); go_simp <;> with_reducible rfl
  try simp only [Act.put, List.setIfInBounds_toArray, List.set_cons_zero, List.set_cons_succ]
  refine wpAnyH_take (i := 10) (oi := { dst := some 44, op := Op.load 37 (Operand.tmp 9), type := 37, pos := "law.go:69", after := #[{ on := 5, ground := Ground.guard }], guard := some (5, true) }) (v := ?_) rfl (by kernel_rfl) (by kernel_rfl) (by kernel_rfl) (fun _ _ _ h => h) (Or.inl ⟨by rfl, ?_⟩) (by assumption) ?_
  rotate_left
  · intro w hSw; (try dsimp only at hSw); go_simp <;> with_reducible rfl
  try simp only [Act.put, List.setIfInBounds_toArray, List.set_cons_zero, List.set_cons_succ]
  refine wpAnyH_take (i := 11) (oi := { dst := some 45, op := Op.move (Operand.tmp 1), type := 3, pos := "law.go:69", after := #[{ on := 5, ground := Ground.guard }], guard := some (5, true) }) (v := ?_) rfl (by kernel_rfl) (by kernel_rfl) (by kernel_rfl) (fun _ _ _ h => h) (Or.inl ⟨by rfl, ?_⟩) (by assumption) ?_
  rotate_left
  · intro w hSw; (try dsimp only at hSw); go_simp <;> with_reducible rfl
  try simp only [Act.put, List.setIfInBounds_toArray, List.set_cons_zero, List.set_cons_succ]
  refine wpAnyH_take (i := 12) (oi := { dst := some 46, op := Op.move (Operand.tmp 2), type := 3, pos := "law.go:69", after := #[{ on := 5, ground := Ground.guard }], guard := some (5, true) }) (v := ?_) rfl (by kernel_rfl) (by kernel_rfl) (by kernel_rfl) (fun _ _ _ h => h) (Or.inl ⟨by rfl, ?_⟩) (by assumption) ?_
  rotate_left
  · intro w hSw; (try dsimp only at hSw); go_simp <;> with_reducible rfl
  try simp only [Act.put, List.setIfInBounds_toArray, List.set_cons_zero, List.set_cons_succ]
  refine wpAnyH_ready (rs := [9]) (by kernel_rfl) (by simp) ?_
  refine AllReadyH.cons (o := { dst := some 43, op := Op.call { callee := Callee.value (Operand.func 10), args := #[Operand.tmp 40, Operand.tmp 41, Operand.tmp 42], argTypes := #[26, 3, 3] }, type := 4, pos := "law.go:69", after := #[{ on := 6, ground := Ground.data }, { on := 7, ground := Ground.data }, { on := 8, ground := Ground.data }, { on := 5, ground := Ground.chain }, { on := 5, ground := Ground.guard }], guard := some (5, true) }) rfl (fun K hK => ?_) AllReadyH.nil
  go_simp
  (first | (go_at_call 8; refine (HG.out _ (by assumption)).mono ?_; rintro d w' ⟨rfl, hS⟩) | (go_at_call 14; refine (HRg.out _ (by assumption)).mono ?_; rintro d w' ⟨rfl, hS⟩) | (go_at_call 10; refine (HKp.out _ (by assumption)).mono ?_; rintro d w' ⟨rfl, hS⟩) | (go_at_call 15; refine (HRk.out _ (by assumption)).mono ?_; rintro d w' ⟨rfl, hS⟩) | (go_at_call 11; refine (HMy.out _ (by assumption)).mono ?_; rintro d w' ⟨rfl, hS⟩) | (go_at_call 16; refine (HRm.out _ (by assumption)).mono ?_; rintro d w' ⟨rfl, hS⟩))
  refine hK.out _ _ ?_ (fun hHeld => ?_)
  · (first | assumption | exact (TwoC.alloc (by assumption) _) | exact (TwoC.drew (by assumption)))
  clear hK K
  try simp only [Act.put, List.setIfInBounds_toArray, List.set_cons_zero, List.set_cons_succ]
  refine wpAnyH_ready (rs := [13]) (by kernel_rfl) (by simp) ?_
  refine AllReadyH.cons (o := { dst := some 47, op := Op.call { callee := Callee.value (Operand.func 15), args := #[Operand.tmp 44, Operand.tmp 45, Operand.tmp 46], argTypes := #[37, 3, 3] }, type := 4, pos := "law.go:69", after := #[{ on := 10, ground := Ground.data }, { on := 11, ground := Ground.data }, { on := 12, ground := Ground.data }, { on := 9, ground := Ground.chain }, { on := 5, ground := Ground.guard }], guard := some (5, true) }) rfl (fun K hK => ?_) AllReadyH.nil
  go_simp
  (first | (go_at_call 8; refine (HG.out _ (by assumption)).mono ?_; rintro d w' ⟨rfl, hS⟩) | (go_at_call 14; refine (HRg.out _ (by assumption)).mono ?_; rintro d w' ⟨rfl, hS⟩) | (go_at_call 10; refine (HKp.out _ (by assumption)).mono ?_; rintro d w' ⟨rfl, hS⟩) | (go_at_call 15; refine (HRk.out _ (by assumption)).mono ?_; rintro d w' ⟨rfl, hS⟩) | (go_at_call 11; refine (HMy.out _ (by assumption)).mono ?_; rintro d w' ⟨rfl, hS⟩) | (go_at_call 16; refine (HRm.out _ (by assumption)).mono ?_; rintro d w' ⟨rfl, hS⟩))
  refine hK.out _ _ ?_ (fun hHeld => ?_)
  · (first | assumption | exact (TwoC.alloc (by assumption) _) | exact (TwoC.drew (by assumption)))
  clear hK K
  try simp only [Act.put, List.setIfInBounds_toArray, List.set_cons_zero, List.set_cons_succ]
  refine wpAnyH_take (i := 14) (oi := { dst := some 48, op := Op.binOp BinOp.eql 4 (Operand.tmp 43) (Operand.tmp 47) 4, type := 4, pos := "law.go:69", after := #[{ on := 9, ground := Ground.data }, { on := 13, ground := Ground.data }, { on := 5, ground := Ground.guard }], guard := some (5, true) }) (v := ?_) rfl (by kernel_rfl) (by kernel_rfl) (by kernel_rfl) (fun _ _ _ h => h) (Or.inl ⟨by rfl, ?_⟩) (by assumption) ?_
  rotate_left
  · intro w hSw; (try dsimp only at hSw); go_simp <;> with_reducible rfl
  try simp only [Act.put, List.setIfInBounds_toArray, List.set_cons_zero, List.set_cons_succ]
  refine wpAnyH_take (i := 15) (oi := { dst := some 49, op := Op.pick (Operand.tmp 39) (Operand.tmp 48) (Operand.const (Value.bool false)), type := 4, pos := "law.go:69", after := #[{ on := 5, ground := Ground.data }, { on := 14, ground := Ground.data }], guard := none }) (v := ?_) rfl (by kernel_rfl) (by kernel_rfl) (by kernel_rfl) (fun _ _ _ h => h) (Or.inl ⟨by rfl, ?_⟩) (by assumption) ?_
  rotate_left
  · intro w hSw; (try dsimp only at hSw); go_simp <;> with_reducible rfl
  try simp only [Act.put, List.setIfInBounds_toArray, List.set_cons_zero, List.set_cons_succ]
  refine wpAnyH_take (i := 16) (oi := { dst := some 50, op := Op.move (Operand.tmp 49), type := 4, pos := "law.go:69", after := #[{ on := 15, ground := Ground.data }, { on := 13, ground := Ground.chain }], guard := none }) (v := ?_) rfl (by kernel_rfl) (by kernel_rfl) (by kernel_rfl) (fun _ _ _ h => h) (Or.inl ⟨by rfl, ?_⟩) (by assumption) ?_
  rotate_left
  · intro w hSw; (try dsimp only at hSw); go_simp <;> with_reducible rfl
  try simp only [Act.put, List.setIfInBounds_toArray, List.set_cons_zero, List.set_cons_succ]
  refine wpAnyH_take (i := 17) (oi := { dst := some 51, op := Op.move (Operand.tmp 10), type := 3, pos := "law.go:69", after := #[{ on := 16, ground := Ground.guard }], guard := some (16, true) }) (v := ?_) rfl (by kernel_rfl) (by kernel_rfl) (by kernel_rfl) (fun _ _ _ h => h) (Or.inl ⟨by rfl, ?_⟩) (by assumption) ?_
  rotate_left
  · intro w hSw; (try dsimp only at hSw); go_simp <;> with_reducible rfl
  try simp only [Act.put, List.setIfInBounds_toArray, List.set_cons_zero, List.set_cons_succ]
  refine wpAnyH_take (i := 18) (oi := { dst := some 52, op := Op.move (Operand.tmp 12), type := 3, pos := "law.go:69", after := #[{ on := 16, ground := Ground.guard }], guard := some (16, true) }) (v := ?_) rfl (by kernel_rfl) (by kernel_rfl) (by kernel_rfl) (fun _ _ _ h => h) (Or.inl ⟨by rfl, ?_⟩) (by assumption) ?_
  rotate_left
  · intro w hSw; (try dsimp only at hSw); go_simp <;> with_reducible rfl
  try simp only [Act.put, List.setIfInBounds_toArray, List.set_cons_zero, List.set_cons_succ]
  refine wpAnyH_take (i := 19) (oi := { dst := some 53, op := Op.binOp BinOp.eql 3 (Operand.tmp 51) (Operand.tmp 52) 3, type := 4, pos := "law.go:69", after := #[{ on := 17, ground := Ground.data }, { on := 18, ground := Ground.data }, { on := 16, ground := Ground.guard }], guard := some (16, true) }) (v := ?_) rfl (by kernel_rfl) (by kernel_rfl) (by kernel_rfl) (fun _ _ _ h => h) (Or.inl ⟨by rfl, ?_⟩) (by assumption) ?_
  rotate_left
  · intro w hSw; (try dsimp only at hSw); go_simp <;> with_reducible rfl
  try simp only [Act.put, List.setIfInBounds_toArray, List.set_cons_zero, List.set_cons_succ]
  refine wpAnyH_take (i := 20) (oi := { dst := some 54, op := Op.pick (Operand.tmp 50) (Operand.tmp 53) (Operand.const (Value.bool false)), type := 4, pos := "law.go:69", after := #[{ on := 16, ground := Ground.data }, { on := 19, ground := Ground.data }], guard := none }) (v := ?_) rfl (by kernel_rfl) (by kernel_rfl) (by kernel_rfl) (fun _ _ _ h => h) (Or.inl ⟨by rfl, ?_⟩) (by assumption) ?_
  rotate_left
  · intro w hSw; (try dsimp only at hSw); go_simp <;> with_reducible rfl
  try simp only [Act.put, List.setIfInBounds_toArray, List.set_cons_zero, List.set_cons_succ]
  refine wpAnyH_take (i := 21) (oi := { dst := some 55, op := Op.move (Operand.tmp 54), type := 4, pos := "law.go:69", after := #[{ on := 20, ground := Ground.data }, { on := 16, ground := Ground.chain }], guard := none }) (v := ?_) rfl (by kernel_rfl) (by kernel_rfl) (by kernel_rfl) (fun _ _ _ h => h) (Or.inl ⟨by rfl, ?_⟩) (by assumption) ?_
  rotate_left
  · intro w hSw; (try dsimp only at hSw); go_simp <;> with_reducible rfl
  try simp only [Act.put, List.setIfInBounds_toArray, List.set_cons_zero, List.set_cons_succ]
  refine wpAnyH_take (i := 22) (oi := { dst := some 56, op := Op.move (Operand.tmp 11), type := 4, pos := "law.go:69", after := #[{ on := 21, ground := Ground.guard }], guard := some (21, true) }) (v := ?_) rfl (by kernel_rfl) (by kernel_rfl) (by kernel_rfl) (fun _ _ _ h => h) (Or.inl ⟨by rfl, ?_⟩) (by assumption) ?_
  rotate_left
  · intro w hSw; (try dsimp only at hSw); go_simp <;> with_reducible rfl
  try simp only [Act.put, List.setIfInBounds_toArray, List.set_cons_zero, List.set_cons_succ]
  refine wpAnyH_take (i := 23) (oi := { dst := some 57, op := Op.move (Operand.tmp 13), type := 4, pos := "law.go:69", after := #[{ on := 21, ground := Ground.guard }], guard := some (21, true) }) (v := ?_) rfl (by kernel_rfl) (by kernel_rfl) (by kernel_rfl) (fun _ _ _ h => h) (Or.inl ⟨by rfl, ?_⟩) (by assumption) ?_
  rotate_left
  · intro w hSw; (try dsimp only at hSw); go_simp <;> with_reducible rfl
  try simp only [Act.put, List.setIfInBounds_toArray, List.set_cons_zero, List.set_cons_succ]
  refine wpAnyH_take (i := 24) (oi := { dst := some 58, op := Op.binOp BinOp.eql 4 (Operand.tmp 56) (Operand.tmp 57) 4, type := 4, pos := "law.go:69", after := #[{ on := 22, ground := Ground.data }, { on := 23, ground := Ground.data }, { on := 21, ground := Ground.guard }], guard := some (21, true) }) (v := ?_) rfl (by kernel_rfl) (by kernel_rfl) (by kernel_rfl) (fun _ _ _ h => h) (Or.inl ⟨by rfl, ?_⟩) (by assumption) ?_
  rotate_left
  · intro w hSw; (try dsimp only at hSw); go_simp <;> with_reducible rfl
  try simp only [Act.put, List.setIfInBounds_toArray, List.set_cons_zero, List.set_cons_succ]
  refine wpAnyH_take (i := 25) (oi := { dst := some 59, op := Op.pick (Operand.tmp 55) (Operand.tmp 58) (Operand.const (Value.bool false)), type := 4, pos := "law.go:69", after := #[{ on := 21, ground := Ground.data }, { on := 24, ground := Ground.data }], guard := none }) (v := ?_) rfl (by kernel_rfl) (by kernel_rfl) (by kernel_rfl) (fun _ _ _ h => h) (Or.inl ⟨by rfl, ?_⟩) (by assumption) ?_
  rotate_left
  · intro w hSw; (try dsimp only at hSw); go_simp <;> with_reducible rfl
  try simp only [Act.put, List.setIfInBounds_toArray, List.set_cons_zero, List.set_cons_succ]
  refine wpAnyH_take (i := 26) (oi := { dst := some 60, op := Op.move (Operand.tmp 59), type := 4, pos := "law.go:69", after := #[{ on := 25, ground := Ground.data }, { on := 21, ground := Ground.chain }], guard := none }) (v := ?_) rfl (by kernel_rfl) (by kernel_rfl) (by kernel_rfl) (fun _ _ _ h => h) (Or.inl ⟨by rfl, ?_⟩) (by assumption) ?_
  rotate_left
  · intro w hSw; (try dsimp only at hSw); go_simp <;> with_reducible rfl
  try simp only [Act.put, List.setIfInBounds_toArray, List.set_cons_zero, List.set_cons_succ]
  refine wpAnyH_take (i := 27) (oi := { dst := some 61, op := Op.load 26 (Operand.tmp 4), type := 26, pos := "law.go:69", after := #[{ on := 26, ground := Ground.guard }], guard := some (26, true) }) (v := ?_) rfl (by kernel_rfl) (by kernel_rfl) (by kernel_rfl) (fun _ _ _ h => h) (Or.inl ⟨by rfl, ?_⟩) (by assumption) ?_
  rotate_left
  · intro w hSw; (try dsimp only at hSw); go_simp <;> with_reducible rfl
  try simp only [Act.put, List.setIfInBounds_toArray, List.set_cons_zero, List.set_cons_succ]
  refine wpAnyH_take (i := 28) (oi := { dst := some 62, op := Op.move (Operand.tmp 1), type := 3, pos := "law.go:69", after := #[{ on := 26, ground := Ground.guard }], guard := some (26, true) }) (v := ?_) rfl (by kernel_rfl) (by kernel_rfl) (by kernel_rfl) (fun _ _ _ h => h) (Or.inl ⟨by rfl, ?_⟩) (by assumption) ?_
  rotate_left
  · intro w hSw; (try dsimp only at hSw); go_simp <;> with_reducible rfl
  try simp only [Act.put, List.setIfInBounds_toArray, List.set_cons_zero, List.set_cons_succ]
  refine wpAnyH_take (i := 29) (oi := { dst := some 63, op := Op.move (Operand.tmp 3), type := 28, pos := "law.go:69", after := #[{ on := 26, ground := Ground.guard }], guard := some (26, true) }) (v := ?_) rfl (by kernel_rfl) (by kernel_rfl) (by kernel_rfl) (fun _ _ _ h => h) (Or.inl ⟨by rfl, ?_⟩) (by assumption) ?_
  rotate_left
  · intro w hSw; (try dsimp only at hSw); go_simp <;> with_reducible rfl
  try simp only [Act.put, List.setIfInBounds_toArray, List.set_cons_zero, List.set_cons_succ]
  refine wpAnyH_take (i := 31) (oi := { dst := some 65, op := Op.load 37 (Operand.tmp 9), type := 37, pos := "law.go:69", after := #[{ on := 26, ground := Ground.guard }], guard := some (26, true) }) (v := ?_) rfl (by kernel_rfl) (by kernel_rfl) (by kernel_rfl) (fun _ _ _ h => h) (Or.inl ⟨by rfl, ?_⟩) (by assumption) ?_
  rotate_left
  · intro w hSw; (try dsimp only at hSw); go_simp <;> with_reducible rfl
  try simp only [Act.put, List.setIfInBounds_toArray, List.set_cons_zero, List.set_cons_succ]
  refine wpAnyH_take (i := 32) (oi := { dst := some 66, op := Op.move (Operand.tmp 1), type := 3, pos := "law.go:69", after := #[{ on := 26, ground := Ground.guard }], guard := some (26, true) }) (v := ?_) rfl (by kernel_rfl) (by kernel_rfl) (by kernel_rfl) (fun _ _ _ h => h) (Or.inl ⟨by rfl, ?_⟩) (by assumption) ?_
  rotate_left
  · intro w hSw; (try dsimp only at hSw); go_simp <;> with_reducible rfl
  try simp only [Act.put, List.setIfInBounds_toArray, List.set_cons_zero, List.set_cons_succ]
  refine wpAnyH_take (i := 33) (oi := { dst := some 67, op := Op.move (Operand.tmp 3), type := 28, pos := "law.go:69", after := #[{ on := 26, ground := Ground.guard }], guard := some (26, true) }) (v := ?_) rfl (by kernel_rfl) (by kernel_rfl) (by kernel_rfl) (fun _ _ _ h => h) (Or.inl ⟨by rfl, ?_⟩) (by assumption) ?_
  rotate_left
  · intro w hSw; (try dsimp only at hSw); go_simp <;> with_reducible rfl
  try simp only [Act.put, List.setIfInBounds_toArray, List.set_cons_zero, List.set_cons_succ]
  refine wpAnyH_ready (rs := [30]) (by kernel_rfl) (by simp) ?_
  refine AllReadyH.cons (o := { dst := some 64, op := Op.call { callee := Callee.value (Operand.func 11), args := #[Operand.tmp 61, Operand.tmp 62, Operand.tmp 63], argTypes := #[26, 3, 29] }, type := 4, pos := "law.go:69", after := #[{ on := 27, ground := Ground.data }, { on := 28, ground := Ground.data }, { on := 29, ground := Ground.data }, { on := 26, ground := Ground.chain }, { on := 26, ground := Ground.guard }], guard := some (26, true) }) rfl (fun K hK => ?_) AllReadyH.nil
  go_simp
  (first | (go_at_call 8; refine (HG.out _ (by assumption)).mono ?_; rintro d w' ⟨rfl, hS⟩) | (go_at_call 14; refine (HRg.out _ (by assumption)).mono ?_; rintro d w' ⟨rfl, hS⟩) | (go_at_call 10; refine (HKp.out _ (by assumption)).mono ?_; rintro d w' ⟨rfl, hS⟩) | (go_at_call 15; refine (HRk.out _ (by assumption)).mono ?_; rintro d w' ⟨rfl, hS⟩) | (go_at_call 11; refine (HMy.out _ (by assumption)).mono ?_; rintro d w' ⟨rfl, hS⟩) | (go_at_call 16; refine (HRm.out _ (by assumption)).mono ?_; rintro d w' ⟨rfl, hS⟩))
  refine hK.out _ _ ?_ (fun hHeld => ?_)
  · (first | assumption | exact (TwoC.alloc (by assumption) _) | exact (TwoC.drew (by assumption)))
  clear hK K
  try simp only [Act.put, List.setIfInBounds_toArray, List.set_cons_zero, List.set_cons_succ]
  refine wpAnyH_ready (rs := [34]) (by kernel_rfl) (by simp) ?_
  refine AllReadyH.cons (o := { dst := some 68, op := Op.call { callee := Callee.value (Operand.func 16), args := #[Operand.tmp 65, Operand.tmp 66, Operand.tmp 67], argTypes := #[37, 3, 28] }, type := 4, pos := "law.go:69", after := #[{ on := 31, ground := Ground.data }, { on := 32, ground := Ground.data }, { on := 33, ground := Ground.data }, { on := 30, ground := Ground.chain }, { on := 26, ground := Ground.guard }], guard := some (26, true) }) rfl (fun K hK => ?_) AllReadyH.nil
  go_simp
  (first | (go_at_call 8; refine (HG.out _ (by assumption)).mono ?_; rintro d w' ⟨rfl, hS⟩) | (go_at_call 14; refine (HRg.out _ (by assumption)).mono ?_; rintro d w' ⟨rfl, hS⟩) | (go_at_call 10; refine (HKp.out _ (by assumption)).mono ?_; rintro d w' ⟨rfl, hS⟩) | (go_at_call 15; refine (HRk.out _ (by assumption)).mono ?_; rintro d w' ⟨rfl, hS⟩) | (go_at_call 11; refine (HMy.out _ (by assumption)).mono ?_; rintro d w' ⟨rfl, hS⟩) | (go_at_call 16; refine (HRm.out _ (by assumption)).mono ?_; rintro d w' ⟨rfl, hS⟩))
  refine hK.out _ _ ?_ (fun hHeld => ?_)
  · (first | assumption | exact (TwoC.alloc (by assumption) _) | exact (TwoC.drew (by assumption)))
  clear hK K
  try simp only [Act.put, List.setIfInBounds_toArray, List.set_cons_zero, List.set_cons_succ]
  refine wpAnyH_take (i := 35) (oi := { dst := some 69, op := Op.binOp BinOp.eql 4 (Operand.tmp 64) (Operand.tmp 68) 4, type := 4, pos := "law.go:69", after := #[{ on := 30, ground := Ground.data }, { on := 34, ground := Ground.data }, { on := 26, ground := Ground.guard }], guard := some (26, true) }) (v := ?_) rfl (by kernel_rfl) (by kernel_rfl) (by kernel_rfl) (fun _ _ _ h => h) (Or.inl ⟨by rfl, ?_⟩) (by assumption) ?_
  rotate_left
  · intro w hSw; (try dsimp only at hSw); go_simp <;> with_reducible rfl
  try simp only [Act.put, List.setIfInBounds_toArray, List.set_cons_zero, List.set_cons_succ]
  refine wpAnyH_take (i := 36) (oi := { dst := some 70, op := Op.pick (Operand.tmp 60) (Operand.tmp 69) (Operand.const (Value.bool false)), type := 4, pos := "law.go:69", after := #[{ on := 26, ground := Ground.data }, { on := 35, ground := Ground.data }], guard := none }) (v := ?_) rfl (by kernel_rfl) (by kernel_rfl) (by kernel_rfl) (fun _ _ _ h => h) (Or.inl ⟨by rfl, ?_⟩) (by assumption) ?_
  rotate_left
  · intro w hSw; (try dsimp only at hSw); go_simp <;> with_reducible rfl
  try simp only [Act.put, List.setIfInBounds_toArray, List.set_cons_zero, List.set_cons_succ]
  refine wpAnyH_take (i := 37) (oi := { dst := some 8, op := Op.assign (Operand.tmp 70), type := 4, pos := "law.go:69", after := #[{ on := 36, ground := Ground.data }, { on := 34, ground := Ground.chain }, { on := 0, ground := Ground.phase }, { on := 1, ground := Ground.phase }, { on := 2, ground := Ground.phase }, { on := 3, ground := Ground.phase }, { on := 4, ground := Ground.phase }, { on := 5, ground := Ground.phase }, { on := 6, ground := Ground.phase }, { on := 7, ground := Ground.phase }, { on := 8, ground := Ground.phase }, { on := 9, ground := Ground.phase }, { on := 10, ground := Ground.phase }, { on := 11, ground := Ground.phase }, { on := 12, ground := Ground.phase }, { on := 13, ground := Ground.phase }, { on := 14, ground := Ground.phase }, { on := 15, ground := Ground.phase }, { on := 16, ground := Ground.phase }, { on := 17, ground := Ground.phase }, { on := 18, ground := Ground.phase }, { on := 19, ground := Ground.phase }, { on := 20, ground := Ground.phase }, { on := 21, ground := Ground.phase }, { on := 22, ground := Ground.phase }, { on := 23, ground := Ground.phase }, { on := 24, ground := Ground.phase }, { on := 25, ground := Ground.phase }, { on := 26, ground := Ground.phase }, { on := 27, ground := Ground.phase }, { on := 28, ground := Ground.phase }, { on := 29, ground := Ground.phase }, { on := 30, ground := Ground.phase }, { on := 31, ground := Ground.phase }, { on := 32, ground := Ground.phase }, { on := 33, ground := Ground.phase }, { on := 34, ground := Ground.phase }, { on := 35, ground := Ground.phase }, { on := 36, ground := Ground.phase }], guard := none }) (v := ?_) rfl (by kernel_rfl) (by kernel_rfl) (by kernel_rfl) (fun _ _ _ h => h) (Or.inl ⟨by rfl, ?_⟩) (by assumption) ?_
  rotate_left
  · intro w hSw; (try dsimp only at hSw); go_simp <;> with_reducible rfl
  try simp only [Act.put, List.setIfInBounds_toArray, List.set_cons_zero, List.set_cons_succ]
  refine wpAnyH_done (by kernel_rfl) ?_ _
  go_wp2
  go_ret
  exact ⟨rfl, TwoC.modOf (by assumption)⟩
end Go.Proofs.YtcnjllkmliphkaaDoor
