/-
  Package ship: what holds of every ship; strings as bytes.
-/
import Derived.Test.YtcgfbbfepopinaaShipL
import Derived.Test.YtcgfbbfepopinaaElems
namespace Go.Proofs.Ytcgfbbfepopinaa
open Go.RowKit Go.Shoal

/-- What holds of every ship, whatever was called. -/
structure Shp.Inv (s : Shp) : Prop where
  out_le : s.out.length ≤ s.win
  full : s.waits ≠ [] → s.out.length = s.win
  nums : ∀ x ∈ s.out, x.num ≤ s.last
  idle : s.out = [] → s.p.left = 0
  obody : ∀ x ∈ s.out, x.body.size ≤ 50
  wbody : ∀ b ∈ s.waits, b.size ≤ 50
  wait_le : s.waits.length ≤ s.que
theorem Shp.Inv.new (win que : Nat) (f m : Int) : (Shp.new win que f m).Inv := ⟨Nat.zero_le _, fun h => (h rfl).elim, fun x hx => (by cases hx), fun _ => rfl, fun x hx => (by cases hx), fun x hx => (by cases hx), Nat.zero_le _⟩
theorem Shp.Inv.fit {s : Shp} (h : s.Inv) (hw : s.win ≤ 16) (hq : s.que ≤ 32) (hl : s.last ≤ 1000000) : s.Fit :=
  ⟨Nat.le_trans h.out_le hw, Nat.le_trans h.wait_le hq, fun x hx => Nat.le_trans (h.obody x hx) (by decide), fun x hx => Nat.le_trans (h.wbody x hx) (by decide), hl⟩
/-- What fill keeps. -/
theorem Shp.filled_inv {s : Shp} (h1 : s.out.length ≤ s.win) (h3 : ∀ x ∈ s.out, x.num ≤ s.last) (h4 : s.out = [] → s.p.left = 0) (h5 : ∀ x ∈ s.out, x.body.size ≤ 50) (h6 : ∀ b ∈ s.waits, b.size ≤ 50) (h7 : s.waits.length ≤ s.que) : s.filled.Inv := by
  have hg : s.goes ≤ s.waits.length ∧ s.out.length + s.goes ≤ s.win := by unfold Shp.goes; omega
  have ho : s.filled.out = s.out ++ s.news := rfl
  have hnl : s.news.length = s.goes := by unfold Shp.news; rw [numbered_length, List.length_take]; omega
  refine ⟨?_, fun hw => ?_, fun x hx => ?_, fun hx => ?_, fun x hx => ?_, fun b hb => h6 b (List.mem_of_mem_drop hb), ?_⟩
  · show s.filled.out.length ≤ s.win
    rw [ho, List.length_append, hnl]
    exact hg.2
  · show s.filled.out.length = s.win
    rw [ho, List.length_append, hnl]
    have hd : s.waits.drop s.goes ≠ [] := hw
    have : s.goes < s.waits.length := by
      rcases Nat.lt_or_ge s.goes s.waits.length with h | h
      · exact h
      · exact (hd (List.drop_eq_nil_iff.2 h)).elim
    unfold Shp.goes at this ⊢
    omega
  · show x.num ≤ s.last + s.goes
    rw [ho] at hx
    rcases List.mem_append.1 hx with hx | hx
    · have := h3 x hx; omega
    · have := (numbered_mem hx).2.1
      rw [List.length_take] at this
      omega
  · have hx' : (s.fillN s.goes).out = [] := hx
    have : s.filled.p = s.p := by
      show (if (s.fillN s.goes).out = [] then s.p else s.p.start) = s.p
      rw [if_pos hx']
    rw [this]
    rw [ho] at hx
    exact h4 (List.append_eq_nil_iff.1 hx).1
  · rw [ho] at hx
    rcases List.mem_append.1 hx with hx | hx
    · exact h5 x hx
    · exact h6 _ (List.mem_of_mem_take (numbered_mem hx).2.2)
  · show (s.waits.drop s.goes).length ≤ s.que
    rw [List.length_drop]
    omega
theorem Shp.filled_sums (s : Shp) : s.filled.last + s.filled.waits.length = s.last + s.waits.length ∧ s.filled.out.length + s.filled.waits.length = s.out.length + s.waits.length ∧ s.filled.win = s.win ∧ s.filled.que = s.que ∧ s.last ≤ s.filled.last := by
  have hg : s.goes ≤ s.waits.length := by unfold Shp.goes; omega
  have hnl : s.news.length = s.goes := by unfold Shp.news; rw [numbered_length, List.length_take]; omega
  have hw : s.filled.waits.length = s.waits.length - s.goes := List.length_drop
  have ho : s.filled.out.length = s.out.length + s.goes := by
    show (s.out ++ s.news).length = _
    rw [List.length_append, hnl]
  have hl : s.filled.last = s.last + s.goes := rfl
  exact ⟨by omega, by omega, rfl, rfl, by omega⟩
theorem Shp.Inv.put {s : Shp} (h : s.Inv) {b : ByteArray} (hb : b.size ≤ 50) (hr : s.waits.length < s.que) : (s.put b).filled.Inv :=
  Shp.filled_inv h.out_le h.nums h.idle h.obody (fun x hx => by
    rcases List.mem_append.1 hx with hx | hx
    · exact h.wbody x hx
    · obtain rfl := List.mem_singleton.1 hx
      exact hb) (by show (s.waits ++ [b]).length ≤ s.que; rw [List.length_append]; simp; omega)
theorem Shp.Inv.ack {s : Shp} (h : s.Inv) (n : Nat) : (s.acked n).filled.Inv :=
  Shp.filled_inv (Nat.le_trans (List.length_filter_le _ _) h.out_le) (fun x hx => h.nums x (List.mem_filter.1 hx).1) (fun _ => rfl) (fun x hx => h.obody x (List.mem_filter.1 hx).1) h.wbody h.wait_le
/-- A string as bytes. -/
theorem conv_string (w : World) (s : ByteArray) : ∃ v W, (convert 9 31 (.string s)).run Try.prog w = .ok v W ∧ Mod (fun _ => False) w W ∧ SrcOk W v s.size 1 (byteCells s) := by
  refine ⟨_, _, run_bytes_of_string w 9 31 5 s Try.underlying9 Try.underlying31 Try.underlying5, ((Mod.refl _ _).drew).alloc _, .inr ⟨_, _, rfl, by rw [byteCells_length, Nat.mul_one], fun j u hu => ?_, byteCells_one s⟩⟩
  have hlt : j < s.size := by rw [← byteCells_length s]; exact (List.getElem?_eq_some_iff.1 hu).1
  rw [Addr.add_lit, Nat.zero_add]
  have hnew : (w.drew.alloc (.cells (bytesRow s (grownCap w s.size 0 5)) 5 ((bytesRow s (grownCap w s.size 0 5)).size, (bytesRow s (grownCap w s.size 0 5)).size + 1))).heap[w.heap.size]? = _ := blk_new w.drew _
  rw [cell_of_row _ _ _ _ _ _ hnew]
  unfold bytesRow
  have hsz : (s.data.map fun b => Value.int .u8 (b.toNat : Int)).size = s.size := by simp
  rw [Array.getElem?_append_left (by rw [hsz]; exact hlt), ← hu]
  unfold byteCells
  rw [← Array.getElem?_toList, Array.toList_map]
def strCells (s : ByteArray) : List Value := [.string s]
/-- A slice of strings that came in. -/
def Strs (w : World) (v : Value) (l : List ByteArray) : Prop := ElemsIn 1 strCells (fun s => s.size ≤ maxLen) w v l
theorem sail_out {base B pb : Nat} {w0 w : World} {s : Shp} {rs : List (Value × List It)} (h : Sails base B pb w0 s rs w) (hf : s.Fit) : Calls Try.prog 11 #[.pointer (some ⟨B, 0, none⟩)] w fun e w' => ∃ A c, e = .returned (.slice A s.out.length c) ∧ Sails base B pb w0 s ((.slice A s.out.length c, s.out) :: rs) w' := by
  have hz := h.size
  obtain ⟨ov, wv, a1, a2, a3, a4⟩ := h
  refine (out_any w B pb ov wv s a1 hf).mono fun e w' hT => ?_
  obtain ⟨v, he, h1, h2, h3⟩ := hT
  rw [List.take_length] at h1
  obtain ⟨A, c, rfl⟩ : ∃ A c, v = .slice A s.out.length c := by
    obtain ⟨l', _, hr, _⟩ := h1
    exact hr.form
  have hlt := a1.foot_lt
  refine ⟨A, c, he, ov, wv, a1.none h3, a2, a3.trans (h3.below (fun _ _ x => x) hz), fun r hr => ?_⟩
  rcases List.mem_cons.1 hr with rfl | hr
  · exact ⟨h1.mono (fun q _ hq hF => by have := hlt q hF; omega), fun q hq hF => by have := hlt q hF; have := h2 q hq; omega⟩
  · exact (a4 r hr).mod h3 (fun q x => x.elim)
theorem sail_waits {base B pb : Nat} {w0 w : World} {s : Shp} {rs : List (Value × List It)} (h : Sails base B pb w0 s rs w) (hf : s.Fit) : Calls Try.prog 15 #[.pointer (some ⟨B, 0, none⟩)] w fun e w' => ∃ A c, e = .returned (.slice A s.waits.length c) ∧ Sails base B pb w0 s rs w' := by
  have h' := h
  obtain ⟨ov, wv, a1, a2, a3, a4⟩ := h
  refine (waits_any w B pb ov wv s a1 hf).mono fun e w' hT => ?_
  obtain ⟨v, he, ⟨l', _, hr, _⟩, _, h3⟩ := hT
  rw [List.take_length] at hr
  obtain ⟨A, c, rfl⟩ := hr.form
  exact ⟨A, c, he, h'.none' h3⟩
theorem sail_left {base B pb : Nat} {w0 w : World} {s : Shp} {rs : List (Value × List It)} (h : Sails base B pb w0 s rs w) : Calls Try.prog 14 #[.pointer (some ⟨B, 0, none⟩)] w fun e w' => e = .returned (.tuple #[.int .i64 s.p.left, .bool (decide (0 < s.p.left))]) ∧ Sails base B pb w0 s rs w' := by
  have h' := h
  obtain ⟨ov, wv, a1, a2, a3, a4⟩ := h
  exact (left_any w B pb ov wv s a1).mono fun e w' ⟨he, n, hn⟩ => ⟨he, h'.none' (by rw [hn]; exact (Mod.refl _ _).drewN n)⟩
end Go.Proofs.Ytcgfbbfepopinaa
