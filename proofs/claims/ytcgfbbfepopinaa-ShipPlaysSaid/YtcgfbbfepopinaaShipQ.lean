/-
  The calls over a ship that is somewhere, and what they keep of other types.
-/
import Derived.Test.YtcgfbbfepopinaaShipP
namespace Go.Proofs.Ytcgfbbfepopinaa
open Go.RowKit Go.Shoal

def footT : List Nat := [69, 76, 45, 31]
theorem ShipAt.keeps {ts : List Nat} {w w' : World} {B pb : Nat} {ov wv : Value} {s : Shp} (h : ShipAt w B pb ov wv s) (hts : ∀ t ∈ ts, t ∉ footT) (hm : Mod (Foot B pb ov wv) w w') : KeepT ts w w' :=
  KeepT.mod hm fun k cs t hk hF ht => hts t ht (by
    rcases h.foot k cs t hk hF with rfl | rfl | rfl | rfl
    · exact List.mem_cons_self
    · exact List.mem_cons_of_mem _ List.mem_cons_self
    · exact List.mem_cons_of_mem _ (List.mem_cons_of_mem _ List.mem_cons_self)
    · exact List.mem_cons_of_mem _ (List.mem_cons_of_mem _ (List.mem_cons_of_mem _ List.mem_cons_self)))
theorem keep_none {ts : List Nat} {w w' : World} (hm : Mod (fun _ => False) w w') : KeepT ts w w' := KeepT.mod hm fun _ _ _ _ x => x.elim
section
variable {base B pb : Nat} {w0 w : World} {s : Shp} {rs : List (Value × List It)} (ts : List Nat)
theorem sail_push' (h : Sails base B pb w0 s rs w) (hts : ∀ t ∈ ts, t ∉ footT) (v : Value) (b : Bool) (x : ByteArray) (hf : s.Fit) (hq : 2 ≤ s.que ∧ s.que ≤ 32) (hw : s.win ≤ 16) (hr : s.room b = true) (hv : SrcOk w v x.size 1 (byteCells x)) (hx : x.size ≤ 1000) :
    Calls Try.prog 10 #[.pointer (some ⟨B, 0, none⟩), v, .bool b] w fun e w' => (∃ A c, e = .returned (.tuple #[.slice A (s.put x).news.length c, .bool true]) ∧ Sails base B pb w0 (s.put x).filled ((.slice A (s.put x).news.length c, (s.put x).news) :: rs) w') ∧ KeepT ts w w' := by
  have hz := h.size
  obtain ⟨ov, wv, a1, a2, a3, a4⟩ := h
  refine (push_yes w B pb ov wv v s b x a1 hf hq hw hr hv hx).mono fun e w' hE => ?_
  obtain ⟨v', he, ho⟩ := hE.op
  obtain ⟨A, c, rfl⟩ : ∃ A c, v' = .slice A (s.put x).news.length c := by
    obtain ⟨_, _, _, _, _, _, ⟨l', _, h, _⟩, _⟩ := ho
    exact h.form
  refine ⟨⟨A, c, he, Sails.op a2 a3 a4 hz ho⟩, ?_⟩
  obtain ⟨_, _, _, hm, _⟩ := ho
  exact a1.keeps hts hm
theorem sail_push_no' (h : Sails base B pb w0 s rs w) (v : Value) (b : Bool) (hq : 2 ≤ s.que ∧ s.que ≤ 32) (hr : s.room b = false) :
    Calls Try.prog 10 #[.pointer (some ⟨B, 0, none⟩), v, .bool b] w fun e w' => (e = .returned (.tuple #[.slice none 0 0, .bool false]) ∧ Sails base B pb w0 s rs w') ∧ KeepT ts w w' := by
  have h' := h
  obtain ⟨ov, wv, a1, a2, a3, a4⟩ := h
  exact (push_no w B pb ov wv v s b a1 hq hr).mono fun e w' ⟨he, n, hn⟩ => by
    have hm : Mod (fun _ => False) w w' := by rw [hn]; exact (Mod.refl _ _).drewN n
    exact ⟨⟨he, h'.none' hm⟩, keep_none hm⟩
theorem sail_ack' (h : Sails base B pb w0 s rs w) (hts : ∀ t ∈ ts, t ∉ footT) (n : Nat) (hf : s.Fit) (hw : s.win ≤ 16) (hn : s.hears n) :
    Calls Try.prog 12 #[.pointer (some ⟨B, 0, none⟩), .int .u64 n] w fun e w' => (∃ A c, e = .returned (.slice A (s.acked n).news.length c) ∧ Sails base B pb w0 (s.acked n).filled ((.slice A (s.acked n).news.length c, (s.acked n).news) :: rs) w') ∧ KeepT ts w w' := by
  have hz := h.size
  obtain ⟨ov, wv, a1, a2, a3, a4⟩ := h
  refine (ack_yes w B pb ov wv s n a1 hf hw hn).mono fun e w' hE => ?_
  obtain ⟨v', he, ho⟩ := hE
  obtain ⟨A, c, rfl⟩ : ∃ A c, v' = .slice A (s.acked n).news.length c := by
    obtain ⟨_, _, _, _, _, _, ⟨l', _, h, _⟩, _⟩ := ho
    exact h.form
  refine ⟨⟨A, c, he, Sails.op a2 a3 a4 hz ho⟩, ?_⟩
  obtain ⟨_, _, _, hm, _⟩ := ho
  exact a1.keeps hts hm
theorem sail_ack_no' (h : Sails base B pb w0 s rs w) (n : Nat) (hn : s.out = [] ∨ ∃ x r, s.out = x :: r ∧ (n < x.num ∨ s.last < n)) :
    Calls Try.prog 12 #[.pointer (some ⟨B, 0, none⟩), .int .u64 n] w fun e w' => (e = .returned (.slice none 0 0) ∧ Sails base B pb w0 s rs w') ∧ KeepT ts w w' := by
  have h' := h
  obtain ⟨ov, wv, a1, a2, a3, a4⟩ := h
  exact (ack_no w B pb ov wv s n a1 hn).mono fun e w' ⟨he, hm⟩ => ⟨⟨he, h'.none' hm⟩, keep_none hm⟩
theorem sail_out' (h : Sails base B pb w0 s rs w) (hf : s.Fit) : Calls Try.prog 11 #[.pointer (some ⟨B, 0, none⟩)] w fun e w' => (∃ A c, e = .returned (.slice A s.out.length c) ∧ Sails base B pb w0 s ((.slice A s.out.length c, s.out) :: rs) w') ∧ KeepT ts w w' := by
  have hz := h.size
  obtain ⟨ov, wv, a1, a2, a3, a4⟩ := h
  refine (out_any w B pb ov wv s a1 hf).mono fun e w' hT => ?_
  obtain ⟨v, he, h1, h2, h3⟩ := hT
  rw [List.take_length] at h1
  obtain ⟨A, c, rfl⟩ : ∃ A c, v = .slice A s.out.length c := by
    obtain ⟨l', _, hr, _⟩ := h1
    exact hr.form
  have hlt := a1.foot_lt
  refine ⟨⟨A, c, he, ov, wv, a1.none h3, a2, a3.trans (h3.below (fun _ _ x => x) hz), fun r hr => ?_⟩, keep_none h3⟩
  rcases List.mem_cons.1 hr with rfl | hr
  · exact ⟨h1.mono (fun q _ hq hF => by have := hlt q hF; omega), fun q hq hF => by have := hlt q hF; have := h2 q hq; omega⟩
  · exact (a4 r hr).mod h3 (fun q x => x.elim)
theorem sail_waits' (h : Sails base B pb w0 s rs w) (hf : s.Fit) : Calls Try.prog 15 #[.pointer (some ⟨B, 0, none⟩)] w fun e w' => (∃ A c, e = .returned (.slice A s.waits.length c) ∧ Sails base B pb w0 s rs w') ∧ KeepT ts w w' := by
  have h' := h
  obtain ⟨ov, wv, a1, a2, a3, a4⟩ := h
  refine (waits_any w B pb ov wv s a1 hf).mono fun e w' hT => ?_
  obtain ⟨v, he, ⟨l', _, hr, _⟩, _, h3⟩ := hT
  rw [List.take_length] at hr
  obtain ⟨A, c, rfl⟩ := hr.form
  exact ⟨⟨A, c, he, h'.none' h3⟩, keep_none h3⟩
theorem sail_tick' (h : Sails base B pb w0 s rs w) (hts : ∀ t ∈ ts, t ∉ footT) (hf : s.Fit) (ok : s.p.Ok) (hr : 0 ≤ s.p.rings ∧ s.p.rings ≤ 1000000) :
    Calls Try.prog 16 #[.pointer (some ⟨B, 0, none⟩)] w fun e w' => (∃ A c, e = .returned (.slice A (if s.p.tick.2 then s.out else []).length c) ∧ Sails base B pb w0 { s with p := s.p.tick.1 } ((.slice A (if s.p.tick.2 then s.out else []).length c, if s.p.tick.2 then s.out else []) :: rs) w') ∧ KeepT ts w w' := by
  have hz := h.size
  obtain ⟨ov, wv, a1, a2, a3, a4⟩ := h
  refine (tick_any w B pb ov wv s a1 hf ok hr).mono fun e w' hT => ?_
  obtain ⟨v, he, b1, b2, b3, b4⟩ := hT
  obtain ⟨A, c, rfl⟩ : ∃ A c, v = .slice A (if s.p.tick.2 then s.out else []).length c := by
    obtain ⟨l', _, hr, _⟩ := b3
    exact hr.form
  have hlt := a1.foot_lt
  refine ⟨⟨A, c, he, ov, wv, b1, a2, a3.trans (b2.below (fun i hi e => by subst e; have := a2 i (.inr (.inl rfl)); omega) hz), fun r hr => ?_⟩, a1.keeps hts (b2.mono fun k _ hk => .inr (.inl hk))⟩
  rcases List.mem_cons.1 hr with rfl | hr
  · exact ⟨b3.mono (fun q _ hq hF => by have := hlt q hF; omega), fun q hq hF => by have := hlt q hF; have := b4 q hq; omega⟩
  · exact (a4 r hr).mod b2 (fun q e => .inr (.inl e))
end
/-- A row of another type grows. -/
theorem Sails.grown {base B pb : Nat} {w0 w w' : World} {s : Shp} {rs : List (Value × List It)} {row : Option Nat} (h : Sails base B pb w0 s rs w) (hg : w.grownBy w' row) (hr : ∀ k, row = some k → base ≤ k ∧ (w.heap.size ≤ k ∨ ∃ cs t, w.heap[k]? = some (.cells cs t (0, 0)) ∧ t ∉ 5 :: footT)) : Sails base B pb w0 s rs w' := by
  have hz := h.size
  obtain ⟨ov, wv, a1, a2, a3, a4⟩ := h
  have hk : KeepT (5 :: footT) w w' := fun k cs t ht h =>
    (hg.block k (blk_lt h) (fun e => by
      have hlt := blk_lt h
      rcases (hr k e.symm).2 with h1 | ⟨cs', t', h', ht'⟩
      · omega
      · rw [h] at h'
        cases h'
        exact ht' ht)).trans h
  exact ⟨ov, wv, a1.keepT hk (by decide) (by decide) (by decide) (by decide) (by decide), a2, below_grown a3 hg (fun k hk => (hr k hk).1) hz, fun r hr => ⟨(a4 r hr).1.keepT hk (by decide) (by decide), (a4 r hr).2⟩⟩
end Go.Proofs.Ytcgfbbfepopinaa
