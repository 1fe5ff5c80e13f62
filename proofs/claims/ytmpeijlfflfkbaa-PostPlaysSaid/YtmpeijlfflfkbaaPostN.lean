/-
  Package post and the reference's Post, over lists of whole numbers.
-/
import Derived.Test.YtmpeijlfflfkbaaPostM
namespace Go.Proofs.Ytmpeijlfflfkbaa
open Go.RowKit Go.Shoal Go.Conc

def valL (L : Nat → List Int) : Nat → List Value := fun i => (L i).map (Value.int .i64)
def canPutI (n room : Nat) (L : Nat → List Int) (b : Int) : Bool := decide (0 ≤ b) && decide (b < n) && decide ((L b.toNat).length < room)
def canGetI (n : Nat) (L : Nat → List Int) (b : Int) : Bool := decide (0 ≤ b) && decide (b < n) && !(L b.toNat).isEmpty
def putI (n room : Nat) (L : Nat → List Int) (b x : Int) : Nat → List Int := if canPutI n room L b then setI L b.toNat (L b.toNat ++ [x]) else L
def getI (n : Nat) (L : Nat → List Int) (b : Int) : Nat → List Int := if canGetI n L b then setI L b.toNat (L b.toNat).tail else L
def gotI (n : Nat) (L : Nat → List Int) (b : Int) : Int := if canGetI n L b then (L b.toNat).headD 0 else 0
theorem canPut_val (n room : Nat) (L : Nat → List Int) (b : Int) : canPut n room (valL L) b = canPutI n room L b := by unfold canPut canPutI valL; rw [List.length_map]
theorem canGet_val (n : Nat) (L : Nat → List Int) (b : Int) : canGet n (valL L) b = canGetI n L b := by unfold canGet canGetI valL; simp
theorem valL_set (L : Nat → List Int) (k : Nat) (l : List Int) : setLs (valL L) k (l.map (Value.int .i64)) = valL (setI L k l) := by
  funext i
  unfold setLs valL setI
  split <;> rfl
theorem putLs_val (n room : Nat) (L : Nat → List Int) (b x : Int) : putLs n room (valL L) b (.int .i64 x) = valL (putI n room L b x) := by
  unfold putLs putI
  rw [canPut_val]
  split
  · rw [← valL_set]; unfold valL; rw [List.map_append]; rfl
  · rfl
theorem getLs_val (n : Nat) (L : Nat → List Int) (b : Int) : getLs n (valL L) b = valL (getI n L b) := by
  unfold getLs getI
  rw [canGet_val]
  split
  · rw [← valL_set]; unfold valL; rw [List.map_tail]
  · rfl
theorem got_val (n : Nat) (L : Nat → List Int) (b : Int) : (if canGet n (valL L) b then (valL L b.toNat).headD (.int .i64 0) else .int .i64 0) = Value.int .i64 (gotI n L b) := by
  unfold gotI
  rw [canGet_val]
  split
  · unfold valL; cases L b.toNat <;> rfl
  · rfl
theorem plot_put (S : Nat → Prop) (p n room : Nat) (L : Nat → List Int) (b x : Int) (w : World) (h : PlotI S w p n room (valL L)) :
    Calls Try.prog 9 #[.pointer (some ⟨p, 0, none⟩), .int .i64 b, .int .i64 x] w fun e w' => e = .returned (.bool (canPutI n room L b)) ∧ PlotI S w' p n room (valL (putI n room L b x)) ∧ Mod S w w' :=
  (put_P S p n room (valL L) b _ w h).mono fun e w' ⟨h1, h2, h3⟩ => ⟨by rw [h1, canPut_val], by rw [← putLs_val]; exact h2, h3⟩
theorem plot_get (S : Nat → Prop) (p n room : Nat) (L : Nat → List Int) (b : Int) (w : World) (h : PlotI S w p n room (valL L)) :
    Calls Try.prog 12 #[.pointer (some ⟨p, 0, none⟩), .int .i64 b] w fun e w' => e = .returned (.tuple #[.int .i64 (gotI n L b), .bool (canGetI n L b)]) ∧ PlotI S w' p n room (valL (getI n L b)) ∧ Mod S w w' :=
  (get_P S p n room (valL L) b w h).mono fun e w' ⟨h1, h2, h3⟩ => ⟨by rw [h1, got_val, canGet_val], by rw [← getLs_val]; exact h2, h3⟩
/-- What Either gives. -/
def eithI (n : Nat) (L : Nat → List Int) (a b : Int) : Int × Int × Bool × (Nat → List Int) :=
  if canGetI n L a then (a, gotI n L a, true, getI n L a) else if canGetI n L b then (b, gotI n L b, true, getI n L b) else (0, 0, false, L)
theorem plot_either (S : Nat → Prop) (p n room : Nat) (L : Nat → List Int) (a b : Int) (w : World) (h : PlotI S w p n room (valL L)) :
    Calls Try.prog 22 #[.pointer (some ⟨p, 0, none⟩), .int .i64 a, .int .i64 b] w fun e w' => e = .returned (.tuple #[.int .i64 (eithI n L a b).1, .int .i64 (eithI n L a b).2.1, .bool (eithI n L a b).2.2.1]) ∧ PlotI S w' p n room (valL (eithI n L a b).2.2.2) ∧ Mod S w w' := by
  refine (either_P S p n room (valL L) a b w h).mono fun e w' ⟨h1, h2, h3⟩ => ?_
  have ga := got_val n L a
  have gb := got_val n L b
  rw [canGet_val] at ga gb
  unfold eitherIv at h1 h2
  unfold eithI
  rw [canGet_val, canGet_val, getLs_val, getLs_val] at h1 h2
  by_cases ca : canGetI n L a = true
  · rw [if_pos ca] at h1 h2 ga ⊢
    rw [← ga]
    exact ⟨h1, h2, h3⟩
  · rw [if_neg ca] at h1 h2 ⊢
    by_cases cb : canGetI n L b = true
    · rw [if_pos cb] at h1 h2 gb ⊢
      rw [← gb]
      exact ⟨h1, h2, h3⟩
    · rw [if_neg cb] at h1 h2 ⊢
      exact ⟨h1, h2, h3⟩
/-- What Any gives, from a box on. -/
def anyI (L : Nat → List Int) : Nat → Nat → Int × Int × Bool × (Nat → List Int)
  | 0, _ => (0, 0, false, L)
  | f + 1, k => match L k with
    | [] => anyI L f (k + 1)
    | y :: l => ((k : Int), y, true, setI L k l)
theorem anyI_skip (L : Nat → List Int) (n : Nat) : ∀ k, k ≤ n → (∀ j, j < k → L j = []) → anyI L n 0 = anyI L (n - k) k := by
  intro k
  induction k with
  | zero => intro _ _; rfl
  | succ k ih =>
    intro hk h
    rw [ih (by omega) (fun j hj => h j (by omega)), show n - k = (n - (k + 1)) + 1 by omega]
    show (match L k with | [] => _ | y :: l => _) = _
    rw [h k (by omega)]
theorem anyI_some {L : Nat → List Int} {n k : Nat} {y : Int} {l : List Int} (hk : k < n) (h : ∀ j, j < k → L j = []) (hl : L k = y :: l) : anyI L n 0 = ((k : Int), y, true, setI L k l) := by
  rw [anyI_skip L n k (by omega) h, show n - k = (n - k - 1) + 1 by omega]
  show (match L k with | [] => _ | y :: l => _) = _
  rw [hl]
theorem anyI_none {L : Nat → List Int} {n : Nat} (h : ∀ j, j < n → L j = []) : anyI L n 0 = (0, 0, false, L) := by
  rw [anyI_skip L n n (Nat.le_refl _) h, Nat.sub_self]
  rfl
theorem plot_any (S : Nat → Prop) (p n room : Nat) (L : Nat → List Int) (w : World) (h : PlotI S w p n room (valL L)) (hn : n ≤ 16) :
    Calls Try.prog 10 #[.pointer (some ⟨p, 0, none⟩)] w fun e w' => e = .returned (.tuple #[.int .i64 (anyI L n 0).1, .int .i64 (anyI L n 0).2.1, .bool (anyI L n 0).2.2.1]) ∧ PlotI S w' p n room (valL (anyI L n 0).2.2.2) ∧ Mod S w w' := by
  have hnil : ∀ j, valL L j = [] → L j = [] := fun j hj => by unfold valL at hj; exact List.map_eq_nil_iff.1 hj
  refine (any_P S p n room (valL L) w h hn).mono fun e w' hE => ?_
  rcases hE with ⟨k, y, l, hk, h0, hl, he, hb, hw⟩ | ⟨h0, he, hb, hw⟩
  · cases hq : L k with
    | nil => unfold valL at hl; rw [hq] at hl; cases hl
    | cons z t =>
      unfold valL at hl
      rw [hq] at hl
      cases hl
      rw [anyI_some hk (fun j hj => hnil j (h0 j hj)) hq, ← valL_set]
      exact ⟨he, hb, hw⟩
  · rw [anyI_none (fun j hj => hnil j (h0 j hj))]
    exact ⟨he, hb, hw⟩
theorem plot_len (S : Nat → Prop) (p n room : Nat) (L : Nat → List Int) (k : Nat) (w : World) (h : PlotI S w p n room (valL L)) (hk : k < n) :
    Calls Try.prog 11 #[.pointer (some ⟨p, 0, none⟩), .int .i64 k] w fun e w' => e = .returned (.int .i64 (L k).length) ∧ w = w' := by
  refine (len_P S p n room (valL L) k w h).mono fun e w' ⟨h1, h2⟩ => ⟨?_, h2⟩
  rw [if_pos (by omega), Int.toNat_natCast] at h1
  unfold valL at h1
  rw [List.length_map] at h1
  exact h1

/-! The reference. -/
theorem RowAt.src {base : Nat} {w : World} {v : Value} {xs : List Int} (h : RowAt base w v xs) : SrcOk w v xs.length 1 (xs.map (Value.int .i64)) := by
  rcases h with ⟨rfl, rfl⟩ | ⟨b, o, c, cs, rfl, hc, hb, hh, hx⟩
  · exact .inl ⟨rfl, rfl, rfl⟩
  · refine SrcOk.block hh (by simp) (fun j u hu => ?_) (fun u hu => by obtain ⟨z, _, rfl⟩ := List.mem_map.1 hu; rfl)
    obtain ⟨hj, e⟩ := List.getElem?_eq_some_iff.1 hu
    rw [List.length_map] at hj
    rw [hx j hj, ← e, List.getElem_map, List.getD_eq_getElem?_getD, List.getElem?_eq_getElem hj]
    rfl
theorem RowAt.form {base : Nat} {w : World} {v : Value} {xs : List Int} (h : RowAt base w v xs) : ∃ A c, v = .slice A xs.length c := by
  rcases h with ⟨rfl, rfl⟩ | ⟨b, o, c, cs, rfl, _⟩
  · exact ⟨none, 0, rfl⟩
  · exact ⟨_, c, rfl⟩
theorem RowAt.of_own {base B : Nat} {w : World} {v : Value} {m : Nat} {xs : List Int} (h : w.ownsRow B 3 1 v m (xs.map (Value.int .i64))) (hm : xs.length = m) (hB : base ≤ B) : RowAt base w v xs := by
  subst hm
  obtain ⟨h1, h2⟩ := h
  rcases h2 with ⟨rfl, h3⟩ | ⟨g, cap, cur, rfl, hg, hh, hc, _, _, ht⟩
  · exact .inl ⟨rfl, List.eq_nil_of_length_eq_zero h3⟩
  · refine .inr ⟨g, 0, cap, cur, rfl, hc, by omega, hh, fun i hi => ?_⟩
    rw [Nat.zero_add]
    have hk : (cur.toList.take (xs.length * 1))[i]? = cur[i]? := by rw [List.getElem?_take, if_pos (by omega), Array.getElem?_toList]
    rw [← hk, ht, List.getElem?_map, List.getD_eq_getElem?_getD, List.getElem?_eq_getElem hi]
    rfl
theorem RefP.drewN {base : Nat} {w : World} {W g n room : Nat} {L : Nat → List Int} (h : RefP base w W g n room L) (k : Nat) : RefP base (w.drewN k) W g n room L := h
theorem RefP.below {base : Nat} {w w' : World} {W g n room : Nat} {L : Nat → List Int} (h : RefP base w W g n room L) (hb : Below w.heap.size w w') : RefP base w' W g n room L :=
  h.mod (S := fun k => w.heap.size ≤ k ∧ False) ⟨hb.os, hb.tape, hb.output, hb.size, fun k hk _ => hb.block k hk⟩ (fun _ _ x => x.2)
theorem ref_put (base W g n room : Nat) (L : Nat → List Int) (b x : Int) (w : World) (h : RefP base w W g n room L) (hr : room ≤ 64) :
    Calls Try.prog 19 #[.pointer (some ⟨W, 0, none⟩), .int .i64 b, .int .i64 x] w fun e w' => e = .returned (.bool (canPutI n room L b)) ∧ RefP base w' W g n room (putI n room L b x) ∧ Mod (· = g) w w' := by
  have h0 := h
  obtain ⟨cells, h1, h2, h3, h4, h5, h6⟩ := h
  have hlook : canPutI n room L b = false → ∀ e w', Looked w (.bool false) e w' → e = .returned (.bool (canPutI n room L b)) ∧ RefP base w' W g n room (putI n room L b x) ∧ Mod (· = g) w w' := fun hc e w' ⟨he, k, hw⟩ => by
    subst hw
    unfold putI
    rw [hc, if_neg (by decide)]
    exact ⟨he, h0.drewN k, (Mod.refl _ _).drewN k⟩
  by_cases hb : 0 ≤ b ∧ b < n
  · obtain ⟨k, rfl⟩ := Int.eq_ofNat_of_zero_le hb.1
    have hk : k < n := by omega
    obtain ⟨v, hv, hrow⟩ := h6 k hk
    by_cases hl : (L k).length < room
    · have hc : canPutI n room L (k : Int) = true := by unfold canPutI; rw [Int.toNat_natCast]; simp [hl]; omega
      refine (rput_row W g n k (L k).length room v x _ cells w h3 h4 hk hv hrow.form hrow.src hl hr).mono fun e w' ⟨he, w1, v', hw, hB, ho⟩ => ?_
      subst hw
      have hBb : Mod (· = g) w w1 := Mod.of_below hB
      have hst := RefP.store h1 h2 ((hB.block _ (blk_lt h3)).trans h3) ((hB.block _ (blk_lt h4)).trans h4) h5 (fun i hi => by
        obtain ⟨u, a, c⟩ := h6 i hi
        exact ⟨u, a, c.keep (fun b' _ cs hcs => (hB.block _ (blk_lt hcs)).trans hcs)⟩) k hk v' (L k ++ [x]) (RowAt.of_own (B := w.heap.size) (m := (L k).length + 1) (by rw [List.map_append]; exact ho) (by simp) (by have := blk_lt h3; omega))
      unfold putI
      rw [hc, if_pos rfl, Int.toNat_natCast]
      exact ⟨he, hst, hBb.set (fun _ => rfl) _⟩
    · have hc : canPutI n room L (k : Int) = false := by unfold canPutI; rw [Int.toNat_natCast, decide_eq_false hl, Bool.and_false]
      obtain ⟨A, c, rfl⟩ := hrow.form
      exact (rput_full W g n k (L k).length c room A x cells w h3 h4 hk hv (by omega)).mono (hlook hc)
  · have hc : canPutI n room L b = false := by
      unfold canPutI
      by_cases h : 0 ≤ b
      · rw [decide_eq_false (show ¬ b < n by omega), Bool.and_false, Bool.false_and]
      · rw [decide_eq_false h, Bool.false_and, Bool.false_and]
    exact (rput_out W g n room b x w h3 hb).mono (hlook hc)
theorem ref_get (base W g n room : Nat) (L : Nat → List Int) (b : Int) (w : World) (h : RefP base w W g n room L) :
    Calls Try.prog 20 #[.pointer (some ⟨W, 0, none⟩), .int .i64 b] w fun e w' => e = .returned (.tuple #[.int .i64 (gotI n L b), .bool (canGetI n L b)]) ∧ RefP base w' W g n room (getI n L b) ∧ Mod (· = g) w w' := by
  have h0 := h
  obtain ⟨cells, h1, h2, h3, h4, h5, h6⟩ := h
  have hnone : canGetI n L b = false → ∀ (e : Ending) (w' : World), (e = .returned (.tuple #[.int .i64 0, .bool false]) ∧ w = w') → e = .returned (.tuple #[.int .i64 (gotI n L b), .bool (canGetI n L b)]) ∧ RefP base w' W g n room (getI n L b) ∧ Mod (· = g) w w' := fun hc e w' ⟨he, hw⟩ => by
    subst hw
    unfold getI gotI
    rw [hc, if_neg (by decide), if_neg (by decide)]
    exact ⟨he, h0, Mod.refl _ _⟩
  by_cases hb : 0 ≤ b ∧ b < n
  · obtain ⟨k, rfl⟩ := Int.eq_ofNat_of_zero_le hb.1
    have hk : k < n := by omega
    obtain ⟨v, hv, hrow⟩ := h6 k hk
    cases hl : L k with
    | nil =>
      have hc : canGetI n L (k : Int) = false := by unfold canGetI; rw [Int.toNat_natCast, hl]; simp
      obtain ⟨A, c, rfl⟩ := hrow.form
      rw [hl] at hv
      exact (rget_empty W g n k c A room cells w h3 h4 hk hv).mono (hnone hc)
    | cons y l =>
      have hc : canGetI n L (k : Int) = true := by unfold canGetI; rw [Int.toNat_natCast, hl]; simp; omega
      rw [hl] at hrow
      rcases hrow with ⟨_, hx⟩ | ⟨bb, o, c, cs, rfl, hcap, hbb, hcs, hx⟩
      · cases hx
      · obtain ⟨c, rfl⟩ : ∃ c', c = c' + 1 := ⟨c - 1, by simp at hcap; omega⟩
        have hcap' : l.length ≤ c := by simpa using hcap
        have hx0 : w.cell? ⟨bb, o, none⟩ = some (.int .i64 y) := (blk_cell hcs o).trans (by have := hx 0 (by simp); simpa using this)
        refine (rget_row W g n k l.length c bb o room y cells w h3 h4 hk hv hcap' hx0).mono fun e w' ⟨he, hw⟩ => ?_
        subst hw
        have hst := RefP.store (w := w.drew) h1 h2 h3 h4 h5 h6 k hk (.slice (some ⟨bb, if c = 0 then o else o + 1, none⟩) l.length c) l (.inr ⟨bb, _, c, cs, rfl, hcap', hbb, hcs, fun i hi => by
          by_cases hc0 : c = 0
          · omega
          · rw [if_neg hc0]
            have := hx (i + 1) (by simp; omega)
            rw [show o + 1 + i = o + (i + 1) by omega, this]
            rfl⟩)
        unfold getI gotI
        rw [hc, if_pos rfl, if_pos rfl, Int.toNat_natCast, hl]
        exact ⟨he, hst, Mod.set (S := (· = g)) ((Mod.refl _ _).drew) (fun _ => rfl) _⟩
  · have hc : canGetI n L b = false := by
      unfold canGetI
      by_cases h : 0 ≤ b
      · rw [decide_eq_false (show ¬ b < n by omega), Bool.and_false, Bool.false_and]
      · rw [decide_eq_false h, Bool.false_and, Bool.false_and]
    exact (rget_out W g n room b w h3 hb).mono (hnone hc)
end Go.Proofs.Ytmpeijlfflfkbaa
