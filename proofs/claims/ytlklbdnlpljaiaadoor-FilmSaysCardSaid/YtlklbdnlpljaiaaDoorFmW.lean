/-
  The reference's rows of events: events alike; its Cut.
-/
import Derived.Test.YtlklbdnlpljaiaaDoorFmV
import Derived.Test.YtlklbdnlpljaiaaDoorFmS
import Derived.Test.YtlklbdnlpljaiaaDoorFmQ
import Derived.Test.YtlklbdnlpljaiaaDoorFmI
import Derived.Deep.RegionHeld3
namespace Go.Proofs.YtlklbdnlpljaiaaDoor
open Go.RowKit Go.Shoal

/-- A slice of the reference's events. -/
def RevRow (w : World) (v : Value) (l : List Ev) : Prop := RowOf w 44 9 v l.length (evFlat l)
theorem RevRow.nine {w : World} {A : Option Addr} {c : Nat} {l : List Ev} {k : Nat} {e : Ev} (h : RevRow w (.slice A l.length c) l) (he : l[k]? = some e) :
    ∃ b o, A = some ⟨b, o, none⟩ ∧ w.cell? ⟨b, o + k * 9, none⟩ = some (.int .i64 e.kind) ∧ w.cell? ⟨b, o + k * 9 + 1, none⟩ = some (.int .i64 e.p) ∧ w.cell? ⟨b, o + k * 9 + 2, none⟩ = some (.int .i64 e.frm) ∧ w.cell? ⟨b, o + k * 9 + 3, none⟩ = some (.int .u64 e.num) ∧ w.cell? ⟨b, o + k * 9 + 4, none⟩ = some (.int .u64 e.dst) ∧ w.cell? ⟨b, o + k * 9 + 5, none⟩ = some (.int .i64 e.var) ∧ w.cell? ⟨b, o + k * 9 + 6, none⟩ = some (.float .f64 e.x) ∧ w.cell? ⟨b, o + k * 9 + 7, none⟩ = some (.int .u64 e.tag) ∧ w.cell? ⟨b, o + k * 9 + 8, none⟩ = some (.int .i64 e.err) := by
  have hk := (List.getElem?_eq_some_iff.1 he).1
  obtain ⟨b, o, cap, cur, he', hcur, _, hcells⟩ := RowOf.at h (by omega)
  cases he'
  have hj : ∀ j, j < 9 → w.cell? ⟨b, o + k * 9 + j, none⟩ = e.cells[j]? := fun j hj => by
    rw [Nat.add_assoc, blk_cell hcur, hcells (k * 9 + j) (by omega)]
    exact flat_at (f := Ev.cells) (C := 9) (fun _ => rfl) l k j e he hj
  exact ⟨b, o, rfl, hj 0 (by decide), hj 1 (by decide), hj 2 (by decide), hj 3 (by decide), hj 4 (by decide), hj 5 (by decide), hj 6 (by decide), hj 7 (by decide), hj 8 (by decide)⟩
/-! Cut, plain. -/
def memB (e : Ev) : Bool := decide (3 ≤ e.kind) && decide (e.kind ≤ 5)
/-- The first of p's that touches the memory is the read of v. -/
def okA (p v : Int) : List Ev → Bool
  | [] => true
  | e :: r => if e.p = p ∧ memB e = true then e.kind == 5 && e.var == v else okA p v r
def rcut : List Ev → Bool
  | [] => true
  | e :: r => (if e.kind = 4 then okA e.p e.var r else true) && rcut r
theorem memB_out {e : Ev} : (e.kind < 3 ∨ 5 < e.kind) ↔ memB e = false := by
  unfold memB
  rw [Bool.and_eq_false_iff, decide_eq_false_iff_not, decide_eq_false_iff_not]
  omega
theorem fold_none : ∀ r : List Ev, r.foldl stepC none = none
  | [] => rfl
  | _ :: r => fold_none r
theorem cut_iff : ∀ (l : List Ev) (f : Int → Option Int), (l.foldl stepC (some f)).isSome = true ↔ (∀ p v, f p = some v → okA p v l = true) ∧ rcut l = true
  | [], f => ⟨fun _ => ⟨fun _ _ _ => rfl, rfl⟩, fun _ => rfl⟩
  | e :: r, f => by
    rw [List.foldl_cons]
    show (r.foldl stepC (if e.kind < 3 ∨ 5 < e.kind then some f else if badB f e = true then none else some (nextF f e))).isSome = true ↔ _
    by_cases hm : memB e = true
    · have hm' : ¬ (e.kind < 3 ∨ 5 < e.kind) := fun h => by rw [memB_out.1 h] at hm; cases hm
      rw [if_neg hm']
      have hok : ∀ p v, okA p v (e :: r) = if e.p = p then (e.kind == 5 && e.var == v) else okA p v r := fun p v => by
        show (if e.p = p ∧ memB e = true then _ else _) = _
        by_cases hp : e.p = p
        · rw [if_pos ⟨hp, hm⟩, if_pos hp]
        · rw [if_neg (fun h => hp h.1), if_neg hp]
      by_cases hb : badB f e = true
      · rw [if_pos hb, fold_none]
        refine ⟨fun h => (by cases h), fun ⟨h1, _⟩ => ?_⟩
        unfold badB at hb
        cases hf : f e.p with
        | none => rw [hf] at hb; cases hb
        | some v =>
          rw [hf] at hb
          have h2 := h1 e.p v hf
          rw [hok, if_pos rfl] at h2
          dsimp only at hb
          rw [Bool.and_eq_true] at h2
          rw [bne, bne, h2.1, h2.2] at hb
          cases hb
      · rw [if_neg hb, cut_iff r (nextF f e)]
        have hgood : ∀ v, f e.p = some v → (e.kind == 5 && e.var == v) = true := fun v hf => by
          unfold badB at hb
          rw [hf] at hb
          dsimp only at hb
          rw [bne, bne] at hb
          cases h1 : (e.kind == 5) <;> cases h2 : (e.var == v) <;> rw [h1, h2] at hb <;> simp at hb
          rfl
        constructor
        · rintro ⟨h1, h2⟩
          refine ⟨fun p v hf => ?_, ?_⟩
          · rw [hok]
            by_cases hp : e.p = p
            · subst hp; rw [if_pos rfl]; exact hgood v hf
            · rw [if_neg hp]
              refine h1 p v ?_
              unfold nextF
              rw [if_neg (fun h => hp h.symm)]
              exact hf
          · show ((if e.kind = 4 then okA e.p e.var r else true) && rcut r) = true
            rw [h2, Bool.and_true]
            split
            · rename_i h4
              refine h1 e.p e.var ?_
              unfold nextF
              rw [if_pos rfl, if_pos h4]
            · rfl
        · rintro ⟨h1, h2⟩
          have h2' : ((if e.kind = 4 then okA e.p e.var r else true) && rcut r) = true := h2
          rw [Bool.and_eq_true] at h2'
          refine ⟨fun p v hf => ?_, h2'.2⟩
          unfold nextF at hf
          by_cases hp : p = e.p
          · rw [if_pos hp] at hf
            by_cases h4 : e.kind = 4
            · rw [if_pos h4] at hf
              cases hf
              have := h2'.1
              rw [if_pos h4] at this
              rw [hp]
              exact this
            · rw [if_neg h4] at hf; cases hf
          · rw [if_neg hp] at hf
            have := h1 p v hf
            rw [hok, if_neg (fun h => hp h.symm)] at this
            exact this
    · have hm0 : memB e = false := by cases h : memB e <;> simp_all
      rw [if_pos (memB_out.2 hm0), cut_iff r f]
      have h4 : ¬ e.kind = 4 := fun h => by unfold memB at hm0; rw [h] at hm0; cases hm0
      have hok : ∀ p v, okA p v (e :: r) = okA p v r := fun p v => by
        show (if e.p = p ∧ memB e = true then _ else _) = _
        rw [if_neg (fun h => hm h.2)]
      have hrc : rcut (e :: r) = rcut r := by
        show ((if e.kind = 4 then okA e.p e.var r else true) && rcut r) = _
        rw [if_neg h4, Bool.true_and]
      rw [hrc]
      constructor
      · rintro ⟨h1, h2⟩; exact ⟨fun p v hf => by rw [hok]; exact h1 p v hf, h2⟩
      · rintro ⟨h1, h2⟩; exact ⟨fun p v hf => by rw [← hok]; exact h1 p v hf, h2⟩
theorem cut_alike (l : List Ev) : cutB l = rcut l := by
  have h := cut_iff l (fun _ => none)
  rw [Bool.eq_iff_iff]
  unfold cutB cutS
  rw [h]
  exact ⟨fun h => h.2, fun h => ⟨fun _ _ hf => (by cases hf), h⟩⟩
end Go.Proofs.YtlklbdnlpljaiaaDoor
