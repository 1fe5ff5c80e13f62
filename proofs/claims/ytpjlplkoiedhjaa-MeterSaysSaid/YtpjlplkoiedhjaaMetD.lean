/-
  A meter in memory; what Add makes of it.
-/
import Derived.Test.YtpjlplkoiedhjaaMetC
import Derived.Test.YtpjlplkoiedhjaaPartB
namespace Go.Proofs.Ytpjlplkoiedhjaa
open Go.RowKit Go.Shoal

/-- A meter's data. -/
structure Mt where
  ks : List Nat
  n : Nat
  f : Nat
  s : Nat
  sm : Nat
  le : Nat
  mo : Nat
def Mt.cells (m : Mt) (v : Value) : Array Value := #[v, .int .i64 (m.n : Int), .int .i64 (m.f : Int), .float .f64 m.s, .float .f64 m.sm, .float .f64 m.le, .float .f64 m.mo]
def MAt (w : World) (g : Nat) (v : Value) (m : Mt) : Prop := w.heap[g]? = some (.cells (m.cells v) 51 (0, 0)) ∧ Keys w v m.ks ∧ v.ownBlock ≠ some g
structure Mt.Ok (m : Mt) : Prop where
  rises : Rises m.ks
  hn : m.n ≤ m.ks.length
  hf : m.f ≤ m.n
  hs : m.s < B64
  hsm : m.sm < B64
  hle : m.le < B64
  hmo : m.mo < B64
def ins (l : List Nat) (k : Nat) : List Nat := l.take (rank l k) ++ k :: l.drop (rank l k)
def eightW : Nat := 4620693217682128896
/-- What Add does. -/
def AddTo (m : Mt) (x : Nat) (m' : Mt) : Prop :=
  m'.ks = ins m.ks (fkey x) ∧
  ((isN x = true ∧ m'.n = m.n ∧ m'.f = m.f ∧ m'.s = m.s ∧ m'.sm = m.sm ∧ m'.le = m.le ∧ m'.mo = m.mo) ∨
   (isN x = false ∧ m'.n = m.n + 1 ∧ Arith .add m.s x m'.s ∧ m'.le = minF [m.le, x] ∧ m'.mo = maxF [m.mo, x] ∧
     ((isI x = true ∧ m'.f = m.f ∧ m'.sm = m.sm) ∨
      (isI x = false ∧ m'.f = m.f + 1 ∧ ((m.f = 0 ∧ m'.sm = x) ∨ (m.f ≠ 0 ∧ ∃ d q, Arith .sub x m.sm d ∧ Arith .quo d eightW q ∧ Arith .add m.sm q m'.sm))))))
/-- A meter that came out of another one. -/
def Step (w0 : World) (g : Nat) (v0 : Value) (m : Mt) (w : World) : Prop :=
  ∃ v, MAt w g v m ∧ (v.ownBlock = v0.ownBlock ∨ ∀ b, v.ownBlock = some b → w0.heap.size ≤ b) ∧ Mod (fun k => k = g ∨ v0.ownBlock = some k) w0 w
theorem Keys.keep {w w' : World} {v : Value} {l : List Nat} (h : Keys w v l) (hb : ∀ b, v.ownBlock = some b → w'.heap[b]? = w.heap[b]?) : Keys w' v l := RowOf.keep h hb
theorem MAt.blk {w : World} {g : Nat} {v : Value} {m : Mt} (h : MAt w g v m) : w.heap[g]? = some (.cells (m.cells v) 51 (0, 0)) := h.1
/-- A field is written. -/
theorem Step.set {w0 w w' : World} {g : Nat} {v0 v : Value} {m m' : Mt} (h : MAt w g v m) (hv : v.ownBlock = v0.ownBlock ∨ ∀ b, v.ownBlock = some b → w0.heap.size ≤ b) (hm : Mod (fun k => k = g ∨ v0.ownBlock = some k) w0 w)
    (hk : m'.ks = m.ks) (h' : w'.heap[g]? = some (.cells (m'.cells v) 51 (0, 0))) (hw : Mod (fun k => k = g) w w') : Step w0 g v0 m' w' := by
  refine ⟨v, ⟨h', ?_, h.2.2⟩, hv, hm.trans' hw (fun i _ e => .inl e)⟩
  rw [hk]
  exact h.2.1.keep fun b hb => hw.block b (RowOf.lt h.2.1 hb) (fun e => h.2.2 (by rw [hb, e]))
theorem Step.first {w0 w2 w : World} {g : Nat} {v0 v' : Value} {m : Mt} {l : List Nat} (h : MAt w0 g v0 m) (hk : Keys w2 v' l) (hg : w.grownBy w2 v0.ownBlock) (hn : v'.ownBlock = v0.ownBlock ∨ v'.ownBlock = some w.heap.size) (hw : Mod (fun _ => False) w0 w) :
    Step w0 g v0 { m with ks := l } (w2.setCell ⟨g, 0, none⟩ v') := by
  have hgz := blk_lt h.1
  have hw0 := hw.size
  have hb : w2.heap[g]? = some (.cells (m.cells v0) 51 (0, 0)) := blk_grown (hw.blk h.1 (fun x => x)) hg (fun k e e' => h.2.2 (by rw [e, e']))
  have hne : v'.ownBlock ≠ some g := fun e => by
    rcases hn with hn | hn
    · exact h.2.2 (by rw [← hn, e])
    · rw [hn] at e
      have := Option.some.inj e
      omega
  refine ⟨v', ⟨blk_set hb 0 v', ?_, hne⟩, ?_, ?_⟩
  · exact hk.keep fun b hb => Below.heap_setCell w2 ⟨g, 0, none⟩ v' b (fun e => hne (by rw [hb, e]))
  · rcases hn with hn | hn
    · exact .inl hn
    · refine .inr fun b hb => ?_
      rw [hn] at hb
      have := Option.some.inj hb
      omega
  · have h1 : Mod (fun k => k = g ∨ v0.ownBlock = some k) w w2 := Mod.of_grown hg (fun k e _ => .inr e)
    exact ((hw.mono (fun _ _ x => x.elim)).trans h1).set (fun _ => .inl rfl) v'
theorem flts_two {w : World} {g t c x y : Nat} (h : w.heap[g]? = some (.cells #[.float .f64 x, .float .f64 y] t (0, 0))) (hx : x < B64) (hy : y < B64) : Flts w (.slice (some ⟨g, 0, none⟩) 2 c) [x, y] := by
  refine ⟨_, c, rfl, by unfold maxLen; simp, fun i hi => ?_, .inr ⟨g, 0, rfl, blk_lt h, fun i j u hi hu => ?_⟩⟩
  · have : i = 0 ∨ i = 1 := by simp at hi; omega
    rcases this with rfl | rfl
    · exact hx
    · exact hy
  · have : i = 0 ∨ i = 1 := by simp at hi; omega
    rw [blk_cell h]
    rcases this with rfl | rfl <;> (cases j with
      | zero => simpa [fltCells] using hu
      | succ j => simp [fltCells] at hu)
end Go.Proofs.Ytpjlplkoiedhjaa
