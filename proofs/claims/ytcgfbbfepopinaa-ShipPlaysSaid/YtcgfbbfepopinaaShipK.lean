/-
  shoallaw12: awake.
-/
import Derived.Test.YtcgfbbfepopinaaShipJ
namespace Go.Proofs.Ytcgfbbfepopinaa
open Go.RowKit Go.Shoal

/-- Told items that no later call touches. -/
def Safe (B pb : Nat) (ov wv : Value) (w : World) (v : Value) (l : List It) : Prop := ItemsAt (fun q => ¬ Foot B pb ov wv q) w v l ∧ ∀ q, v.ownBlock = some q → ¬ Foot B pb ov wv q
theorem Safe.mod {S : Nat → Prop} {B pb : Nat} {ov wv : Value} {w w' : World} {v : Value} {l : List It} (h : Safe B pb ov wv w v l) (hm : Mod S w w') (hs : ∀ q, S q → Foot B pb ov wv q) : Safe B pb ov wv w' v l :=
  ⟨h.1.mod hm (fun k _ hk hS => hk (hs k hS)) (fun k hk hS => h.2 k hk (hs k hS)), h.2⟩
theorem Safe.op {B pb : Nat} {ov wv ov' wv' : Value} {w w' : World} {v : Value} {l : List It} (h : Safe B pb ov wv w v l) (hm : Mod (Foot B pb ov wv) w w') (ho : ∀ k, ov'.ownBlock = some k → ov.ownBlock = some k ∨ w.heap.size ≤ k) (hw : ∀ k, wv'.ownBlock = some k → wv.ownBlock = some k ∨ w.heap.size ≤ k) : Safe B pb ov' wv' w' v l := by
  have hF : ∀ q, q < w.heap.size → ¬ Foot B pb ov wv q → ¬ Foot B pb ov' wv' q := fun q hq hn hF => by
    rcases hF with e | e | e | e
    · exact hn (.inl e)
    · exact hn (.inr (.inl e))
    · rcases ho q e with e | e
      · exact hn (.inr (.inr (.inl e)))
      · omega
    · rcases hw q e with e | e
      · exact hn (.inr (.inr (.inr e)))
      · omega
  exact ⟨((h.1.mono (M := fun q => q < w.heap.size ∧ ¬ Foot B pb ov wv q) (fun k hk hn => ⟨hk, hn⟩)).mod hm (fun k _ hk hS => hk.2 hS) (fun k hk hS => h.2 k hk hS)).mono (fun q _ hq => hF q hq.1 hq.2), fun q hq => hF q (h.1.lt hq) (h.2 q hq)⟩
theorem PushEnd.op {w w' : World} {B pb : Nat} {ov wv : Value} {s : Shp} {b : ByteArray} {e : Ending} (h : PushEnd w B pb ov wv s b e w') : ∃ v, e = .returned (.tuple #[v, .bool true]) ∧ OpEnd w B pb ov wv (s.put b).filled (s.put b).news v w' := by
  obtain ⟨v, ov', wv', h1, h2⟩ := h
  exact ⟨v, h1, ov', wv', h2⟩
/-- A ship somewhere, at or above a block; what was told is safe. -/
def Sails (base B pb : Nat) (w0 : World) (s : Shp) (rs : List (Value × List It)) (w : World) : Prop :=
  ∃ ov wv, ShipAt w B pb ov wv s ∧ (∀ q, Foot B pb ov wv q → base ≤ q) ∧ Below base w0 w ∧ ∀ r ∈ rs, Safe B pb ov wv w r.1 r.2
theorem Sails.op {base B pb : Nat} {w0 w w' : World} {s' : Shp} {rs : List (Value × List It)} {ov wv v : Value} {news : List It} (h1 : ∀ q, Foot B pb ov wv q → base ≤ q) (h2 : Below base w0 w) (h3 : ∀ r ∈ rs, Safe B pb ov wv w r.1 r.2) (hb : base ≤ w.heap.size)
    (h : OpEnd w B pb ov wv s' news v w') : Sails base B pb w0 s' ((v, news) :: rs) w' := by
  obtain ⟨ov', wv', a1, a2, a3, a4, a5, a6⟩ := h
  refine ⟨ov', wv', a1, fun q hq => ?_, h2.trans (a2.below (fun i hi hF => by have := h1 i hF; omega) hb), fun r hr => ?_⟩
  · rcases hq with e | e | e | e
    · exact h1 q (.inl e)
    · exact h1 q (.inr (.inl e))
    · rcases a3 q e with e | e
      · exact h1 q (.inr (.inr (.inl e)))
      · omega
    · rcases a4 q e with e | e
      · exact h1 q (.inr (.inr (.inr e)))
      · omega
  · rcases List.mem_cons.1 hr with rfl | hr
    · exact ⟨a5.mono (fun q _ hq => hq.2), fun q hq => (a6 q hq).2⟩
    · exact (h3 r hr).op a2 a3 a4
theorem Sails.none {base B pb : Nat} {w0 w w' : World} {s : Shp} {rs : List (Value × List It)} (h : Sails base B pb w0 s rs w) (hm : Mod (fun _ => False) w w') (hb : base ≤ w.heap.size) : Sails base B pb w0 s rs w' := by
  obtain ⟨ov, wv, a1, a2, a3, a4⟩ := h
  exact ⟨ov, wv, a1.none hm, a2, a3.trans (hm.below (fun _ _ x => x) hb), fun r hr => (a4 r hr).mod hm (fun q x => x.elim)⟩
theorem Sails.size {base B pb : Nat} {w0 w : World} {s : Shp} {rs : List (Value × List It)} (h : Sails base B pb w0 s rs w) : base ≤ w.heap.size := by
  obtain ⟨ov, wv, a1, a2, _, _⟩ := h
  have := a2 B (.inl rfl)
  have := blk_lt a1.1
  omega
theorem Sails.none' {base B pb : Nat} {w0 w w' : World} {s : Shp} {rs : List (Value × List It)} (h : Sails base B pb w0 s rs w) (hm : Mod (fun _ => False) w w') : Sails base B pb w0 s rs w' := h.none hm h.size
theorem Sails.safe {base B pb : Nat} {w0 w : World} {s : Shp} {rs : List (Value × List It)} (h : Sails base B pb w0 s rs w) {r : Value × List It} (hr : r ∈ rs) : ∃ N, ItemsAt N w r.1 r.2 := by
  obtain ⟨ov, wv, _, _, _, a4⟩ := h
  exact ⟨_, (a4 r hr).1⟩
theorem Sails.less {base B pb : Nat} {w0 w : World} {s : Shp} {rs rs' : List (Value × List It)} (h : Sails base B pb w0 s rs w) (hs : ∀ r ∈ rs', r ∈ rs) : Sails base B pb w0 s rs' w := by
  obtain ⟨ov, wv, a1, a2, a3, a4⟩ := h
  exact ⟨ov, wv, a1, a2, a3, fun r hr => a4 r (hs r hr)⟩

/-! The calls over 'Sails'. -/
def SPush (base B pb : Nat) (w0 : World) (s : Shp) (rs : List (Value × List It)) (b : ByteArray) (e : Ending) (w' : World) : Prop := ∃ v, e = .returned (.tuple #[v, .bool true]) ∧ Sails base B pb w0 (s.put b).filled ((v, (s.put b).news) :: rs) w'
def SAck (base B pb : Nat) (w0 : World) (s : Shp) (rs : List (Value × List It)) (n : Nat) (e : Ending) (w' : World) : Prop := ∃ v, e = .returned v ∧ Sails base B pb w0 (s.acked n).filled ((v, (s.acked n).news) :: rs) w'
theorem sail_push {base B pb : Nat} {w0 w : World} {s : Shp} {rs : List (Value × List It)} (h : Sails base B pb w0 s rs w) (v : Value) (b : Bool) (x : ByteArray) (hf : s.Fit) (hq : 2 ≤ s.que ∧ s.que ≤ 32) (hw : s.win ≤ 16) (hr : s.room b = true) (hv : SrcOk w v x.size 1 (byteCells x)) (hx : x.size ≤ 1000) :
    Calls Try.prog 10 #[.pointer (some ⟨B, 0, none⟩), v, .bool b] w (SPush base B pb w0 s rs x) := by
  have hz := h.size
  obtain ⟨ov, wv, a1, a2, a3, a4⟩ := h
  refine (push_yes w B pb ov wv v s b x a1 hf hq hw hr hv hx).mono fun e w' hE => ?_
  obtain ⟨v', he, ho⟩ := hE.op
  exact ⟨v', he, Sails.op a2 a3 a4 hz ho⟩
theorem sail_push_no {base B pb : Nat} {w0 w : World} {s : Shp} {rs : List (Value × List It)} (h : Sails base B pb w0 s rs w) (v : Value) (b : Bool) (hq : 2 ≤ s.que ∧ s.que ≤ 32) (hr : s.room b = false) :
    Calls Try.prog 10 #[.pointer (some ⟨B, 0, none⟩), v, .bool b] w fun e w' => e = .returned (.tuple #[.slice none 0 0, .bool false]) ∧ Sails base B pb w0 s rs w' := by
  have h' := h
  obtain ⟨ov, wv, a1, a2, a3, a4⟩ := h
  exact (push_no w B pb ov wv v s b a1 hq hr).mono fun e w' ⟨he, n, hn⟩ => ⟨he, h'.none' (by rw [hn]; exact (Mod.refl _ _).drewN n)⟩
theorem sail_ack {base B pb : Nat} {w0 w : World} {s : Shp} {rs : List (Value × List It)} (h : Sails base B pb w0 s rs w) (n : Nat) (hf : s.Fit) (hw : s.win ≤ 16) (hn : s.hears n) :
    Calls Try.prog 12 #[.pointer (some ⟨B, 0, none⟩), .int .u64 n] w (SAck base B pb w0 s rs n) := by
  have hz := h.size
  obtain ⟨ov, wv, a1, a2, a3, a4⟩ := h
  exact (ack_yes w B pb ov wv s n a1 hf hw hn).mono fun e w' ⟨v', he, ho⟩ => ⟨v', he, Sails.op a2 a3 a4 hz ho⟩
theorem sail_ack_no {base B pb : Nat} {w0 w : World} {s : Shp} {rs : List (Value × List It)} (h : Sails base B pb w0 s rs w) (n : Nat) (hn : s.out = [] ∨ ∃ x r, s.out = x :: r ∧ (n < x.num ∨ s.last < n)) :
    Calls Try.prog 12 #[.pointer (some ⟨B, 0, none⟩), .int .u64 n] w fun e w' => e = .returned (.slice none 0 0) ∧ Sails base B pb w0 s rs w' := by
  have h' := h
  obtain ⟨ov, wv, a1, a2, a3, a4⟩ := h
  exact (ack_no w B pb ov wv s n a1 hn).mono fun e w' ⟨he, hm⟩ => ⟨he, h'.none' hm⟩
theorem sail_last {base B pb : Nat} {w0 w : World} {s : Shp} {rs : List (Value × List It)} (h : Sails base B pb w0 s rs w) : Calls Try.prog 13 #[.pointer (some ⟨B, 0, none⟩)] w fun e w' => e = .returned (.int .u64 s.last) ∧ w = w' := by
  obtain ⟨ov, wv, a1, _⟩ := h
  exact last_any w B pb ov wv s a1
theorem sail_new (win que : Nat) (f m : Int) (w : World) (h1 : 1 ≤ win) (h2 : win ≤ 16) (h3 : 2 ≤ que) (h4 : que ≤ 32) (h5 : 1 ≤ f) (h6 : f ≤ m) (h7 : m ≤ 1000) :
    Calls Try.prog 9 #[.int .i64 win, .int .i64 que, .int .i64 f, .int .i64 m] w fun e w' => e = .returned (.tuple #[.pointer (some ⟨w.heap.size + 1, 0, none⟩), .int .i64 0]) ∧ Sails w.heap.size (w.heap.size + 1) w.heap.size w (Shp.new win que f m) [] w' := by
  refine (new_ok win que f m w h1 h2 h3 h4 h5 h6 h7).mono fun e w' ⟨he, hs, hm⟩ => ⟨he, _, _, hs, fun q hq => ?_, hm.none_below, fun r hr => (by cases hr)⟩
  rcases hq with e | e | e | e
  · omega
  · omega
  · cases e
  · cases e
theorem Shp.fit_mk (s : Shp) (h1 : s.out.length ≤ 16) (h2 : s.waits.length ≤ 32) (h3 : (s.out.all fun x => decide (x.body.size ≤ 1000)) = true) (h4 : (s.waits.all fun x => decide (x.size ≤ 1000)) = true) (h5 : s.last ≤ 1000000) : s.Fit :=
  ⟨h1, h2, fun x hx => of_decide_eq_true (List.all_eq_true.1 h3 x hx), fun x hx => of_decide_eq_true (List.all_eq_true.1 h4 x hx), h5⟩
end Go.Proofs.Ytcgfbbfepopinaa
