/-
  Package past: what the reference's stores leave.
-/
import Derived.Test.YteicceikaecfcaaPastRc
namespace Go.Proofs.Yteicceikaecfcaa
open Go.RowKit Go.Shoal Go.Maps

theorem RAt.conv {w : World} {R : Nat} {r : Re} {s s' : Pa} (h : RAt w R r s) (h1 : s'.n = s.n) (h2 : s'.all = s.all) (h3 : s'.knows = s.knows) (h4 : s'.got = s.got) : RAt w R r s' := by
  obtain ⟨a, b, c, d, e, f, g, i⟩ := h
  exact ⟨by rw [h1]; exact a, b, by rw [h2]; exact c, by rw [h1]; exact d, by rw [h1]; exact e, f, by rw [h1, h3]; exact g, by rw [h1, h4]; exact i⟩
theorem row_put (n : Nat) (f : Nat → Value) (p : Nat) (v : Value) : ((List.range n).map f).toArray.setIfInBounds p v = ((List.range n).map fun q => if q = p then v else f q).toArray := by
  apply Array.ext_getElem?
  intro i
  by_cases hi : i < n
  · rw [row_at _ hi]
    by_cases hip : i = p
    · subst hip
      rw [Array.getElem?_setIfInBounds, if_pos rfl, if_pos (by simpa using hi), if_pos rfl]
    · rw [Array.getElem?_setIfInBounds, if_neg (fun e => hip e.symm), if_neg hip, row_at _ hi]
  · rw [Array.getElem?_eq_none (by simp; omega), Array.getElem?_eq_none (by simp; omega)]
section
variable {w W : World} {R : Nat} {r : Re} {s : Pa}
/-- One message more. -/
theorem RAt.more (h : RAt w R r s) {m : Ms} {v mv : Value} (hm : Mod (fun b => b = R ∨ r.mv.ownBlock = some b) w W)
    (ht : W.heap[R]? = some (.cells #[.int .i64 (s.n : Int), mv, .slice (some ⟨r.kR, 0, none⟩) s.n s.n, .slice (some ⟨r.tR, 0, none⟩) s.n s.n] 62 (0, 0)))
    (hr : RowOf W 57 4 mv (r.rows.length + 1) (r.rows.flatMap rcells ++ rcells (m, v))) (hv : Bits W v m.ahead) : RAt W R { r with rows := r.rows ++ [(m, v)], mv := mv } { s with all := s.all ++ [m] } := by
  have hfar : ∀ b cs t, w.heap[b]? = some (.cells cs t (0, 0)) → t ≠ 62 → t ≠ 57 → ¬ (b = R ∨ r.mv.ownBlock = some b) := fun b cs t hb h1 h2 hx => by
    rcases hx with rfl | hx
    · exact blk_ne hb h.top h1 rfl
    · exact row_ne h.ms hb (Ne.symm h2) _ hx rfl
  refine ⟨ht, ?_, ?_, hm.blk h.kn (hfar _ _ _ h.kn (by decide) (by decide)), hm.blk h.gt (hfar _ _ _ h.gt (by decide) (by decide)), fun x hx => ?_, fun q hq => (h.ks q hq).mod hm (fun b hb => ?_), fun q hq => (h.gs q hq).mod hm (fun b hb => ?_)⟩
  · show RowOf W _ 4 mv (r.rows ++ [(m, v)]).length ((r.rows ++ [(m, v)]).flatMap rcells)
    rw [List.length_append, List.flatMap_append]
    simpa using hr
  · show (r.rows ++ [(m, v)]).map Prod.fst = s.all ++ [m]
    rw [List.map_append, h.fs]
    rfl
  · rcases List.mem_append.1 hx with hx | hx
    · exact (h.ah x hx).mod hm (fun b hb => by obtain ⟨cs, hc⟩ := (h.ah x hx).block hb; exact hfar _ _ _ hc (by decide) (by decide))
    · obtain rfl := List.mem_singleton.1 hx
      exact hv
  · obtain ⟨cs, hc⟩ := (h.ks q hq).block hb
    exact hfar _ _ _ hc (by decide) (by decide)
  · obtain ⟨cs, hc⟩ := (h.gs q hq).block hb
    exact hfar _ _ _ hc (by decide) (by decide)
theorem kr_far (h : RAt w R r s) {b : Nat} {cs : Array Value} {t : Nat} (hb : w.heap[b]? = some (.cells cs t (0, 0))) (h1 : t ≠ 55) : b ≠ r.kR := blk_ne hb h.kn h1
theorem tr_far (h : RAt w R r s) {b : Nat} {cs : Array Value} {t : Nat} (hb : w.heap[b]? = some (.cells cs t (0, 0))) (h1 : t ≠ 44) : b ≠ r.tR := blk_ne hb h.gt h1
theorem mod_one (w : World) (b i : Nat) (v : Value) : Mod (fun c => c = b) w (w.setCell ⟨b, i, none⟩ v) := (Mod.refl (fun c => c = b) w).set (p := ⟨b, i, none⟩) (fun _ => rfl) v
/-- A row of what is known, anew. -/
theorem RAt.know (h : RAt w R r s) {p : Nat} {v : Value} {F : Nat → Bool} (hv : Bits w v F) : RAt (w.setCell ⟨r.kR, p, none⟩ v) R { r with kv := fun q => if q = p then v else r.kv q } { s with knows := fun q => if q = p then F else s.knows q } := by
  have hm := mod_one w r.kR p v
  have hbit : ∀ {v' f'}, Bits w v' f' → Bits (w.setCell ⟨r.kR, p, none⟩ v) v' f' := fun hb => hb.mod hm (fun b hb' => by obtain ⟨cs, hc⟩ := hb.block hb'; exact kr_far h hc (by decide))
  refine ⟨hm.blk h.top (kr_far h h.top (by decide)), h.ms.mod hm (fun b hb => by obtain ⟨cs, hc⟩ := h.ms.block hb; exact kr_far h hc (by decide)), h.fs, ?_, hm.blk h.gt (kr_far h h.gt (by decide)), fun x hx => hbit (h.ah x hx), fun q hq => ?_, fun q hq => (h.gs q hq).mod hm (fun b hb => by obtain ⟨cs, hc⟩ := (h.gs q hq).block hb; exact kr_far h hc (by decide))⟩
  · have hs := blk_set h.kn p v
    rw [row_put] at hs
    exact hs
  · show Bits _ (if q = p then v else r.kv q) (if q = p then F else s.knows q)
    by_cases e : q = p
    · rw [if_pos e, if_pos e]; exact hbit hv
    · rw [if_neg e, if_neg e]; exact hbit (h.ks q hq)
/-- A row of what was taken, anew. -/
theorem RAt.gots (h : RAt w R r s) {p : Nat} {v : Value} {G : List Nat} (hv : RowOf w 3 1 v G.length (G.map fun (k : Nat) => Value.int .i64 (k : Int))) : RAt (w.setCell ⟨r.tR, p, none⟩ v) R { r with gv := fun q => if q = p then v else r.gv q } { s with got := fun q => if q = p then G else s.got q } := by
  have hm := mod_one w r.tR p v
  have hbit : ∀ {v' f'}, Bits w v' f' → Bits (w.setCell ⟨r.tR, p, none⟩ v) v' f' := fun hb => hb.mod hm (fun b hb' => by obtain ⟨cs, hc⟩ := hb.block hb'; exact tr_far h hc (by decide))
  have hint : ∀ {v' G'}, RowOf w 3 1 v' (G' : List Nat).length (G'.map fun (k : Nat) => Value.int .i64 (k : Int)) → RowOf (w.setCell ⟨r.tR, p, none⟩ v) 3 1 v' G'.length (G'.map fun (k : Nat) => Value.int .i64 (k : Int)) := fun hb => hb.mod hm (fun b hb' => by obtain ⟨cs, hc⟩ := hb.block hb'; exact tr_far h hc (by decide))
  refine ⟨hm.blk h.top (tr_far h h.top (by decide)), h.ms.mod hm (fun b hb => by obtain ⟨cs, hc⟩ := h.ms.block hb; exact tr_far h hc (by decide)), h.fs, hm.blk h.kn (tr_far h h.kn (by decide)), ?_, fun x hx => hbit (h.ah x hx), fun q hq => hbit (h.ks q hq), fun q hq => ?_⟩
  · have hs := blk_set h.gt p v
    rw [row_put] at hs
    exact hs
  · show RowOf _ _ 1 (if q = p then v else r.gv q) (if q = p then G else s.got q).length _
    by_cases e : q = p
    · simp only [if_pos e]; exact hint hv
    · simp only [if_neg e]; exact hint (h.gs q hq)
end
end Go.Proofs.Yteicceikaecfcaa
