/-
  The reference's meter: Add, Numbers, Finite.
-/
import Derived.Test.YtpjlplkoiedhjaaMetS
namespace Go.Proofs.Ytpjlplkoiedhjaa
open Go.RowKit Go.Shoal

theorem Try.infoFlt : (Try.prog.info? 22).map (fun i => (i.zero, i.size, i.bytes)) = some (some (.float .f64 0), 1, 8) := by kernel_rfl
/-- A slice of floats in a block that is known. -/
def Fls (w : World) (v : Value) (l : List Nat) : Prop := RowOf w 22 1 v l.length (l.flatMap fltCells)
theorem flt_len (k : Nat) : (fltCells k).length = 1 := rfl
theorem flt_one (l : List Nat) : ∀ u ∈ l.flatMap fltCells, u.oneCell' = true := by
  intro u hu
  obtain ⟨p, _, hp⟩ := List.mem_flatMap.1 hu
  simp only [fltCells, List.mem_cons, List.not_mem_nil, or_false] at hp
  subst hp
  rfl
theorem Fls.cell {w : World} {A : Option Addr} {c n : Nat} {l : List Nat} (h : Fls w (.slice A n c) l) {k : Nat} (hk : k < l.length) : ∃ b o, A = some ⟨b, o, none⟩ ∧ n = l.length ∧ w.cell? ⟨b, o + k, none⟩ = some (.float .f64 (l.getD k 0)) := by
  obtain ⟨b, o, cap, he, hb, hc⟩ := RowOf.elem flt_len h (k := k) (a := l.getD k 0) (by rw [List.getD_eq_getElem?_getD, List.getElem?_eq_getElem hk]; rfl)
  cases he
  have := hc 0 _ rfl
  rw [Nat.mul_one] at this
  exact ⟨b, o, rfl, rfl, this⟩
theorem Fls.flts {w : World} {v : Value} {l : List Nat} (h : Fls w v l) (hl : l.length ≤ 1000) (hb : ∀ x ∈ l, x < B64) : Flts w v l := by
  obtain ⟨A, c, rfl⟩ := RowOf.form h
  refine ⟨A, c, rfl, by unfold maxLen; omega, fun i hi => ?_, ?_⟩
  · rw [List.getD_eq_getElem?_getD, List.getElem?_eq_getElem hi]
    exact hb _ (List.getElem_mem hi)
  · cases l with
    | nil => exact .inl rfl
    | cons a r =>
      obtain ⟨b, o, rfl, _, _⟩ := Fls.cell h (k := 0) (by simp)
      refine .inr ⟨b, o, rfl, RowOf.lt h rfl, fun i j u hi hu => ?_⟩
      obtain ⟨b', o', e, _, hc⟩ := Fls.cell h hi
      cases e
      cases j with
      | zero =>
        rw [Nat.mul_one, Nat.add_zero]
        have : u = .float .f64 ((a :: r).getD i 0) := by simpa [fltCells] using hu.symm
        rw [this]; exact hc
      | succ j => simp [fltCells] at hu
/-- The reference's meter. -/
def RMAt (w : World) (r : Nat) (v : Value) (L : List Nat) : Prop := w.heap[r]? = some (.cells #[v] 39 (0, 0)) ∧ Fls w v L
theorem RMAt.ne {w : World} {r : Nat} {v : Value} {L : List Nat} (h : RMAt w r v L) : ∀ b, v.ownBlock = some b → b ≠ r := fun b hb => by
  obtain ⟨cur, hc⟩ := RowOf.block h.2 hb
  exact blk_ne hc h.1 (by decide)
theorem RMAt.keep {S : Nat → Prop} {w w' : World} {r : Nat} {v : Value} {L : List Nat} (h : RMAt w r v L) (hm : Mod S w w') (hr : ¬ S r) (hv : ∀ b, v.ownBlock = some b → ¬ S b) : RMAt w' r v L :=
  ⟨hm.blk h.1 hr, RowOf.mod h.2 hm hv⟩
theorem RMAt.same {w w' : World} {r : Nat} {v : Value} {L : List Nat} (h : RMAt w r v L) (hm : Mod (fun _ => False) w w') : RMAt w' r v L := h.keep hm (fun x => x) (fun _ _ x => x)
def RAdded (w : World) (r : Nat) (L : List Nat) (x : Nat) (e : Ending) (w' : World) : Prop := e = .returned (.tuple #[]) ∧ ∃ v', RMAt w' r v' (L ++ [x]) ∧ (∀ b, v'.ownBlock = some b → w.heap.size ≤ b) ∧ Mod (· = r) w w'
set_option maxHeartbeats 4000000 in
theorem radd_any (r : Nat) (v : Value) (L : List Nat) (x : Nat) (w : World) (h : RMAt w r v L) (hl : L.length ≤ 1000) :
    Calls Try.prog 20 #[.pointer (some ⟨r, 0, none⟩), .float .f64 x] w (RAdded w r L x) := by
  obtain ⟨i0, hii, hz0, hz1, hz2⟩ := info_parts Try.infoFlt
  have HSRC : Hid (SrcOk (w.alloc (.cells #[] 22)) v L.length 1 (L.flatMap fltCells)) := (RowOf.src h.2 (flt_one L)).below ((Below.refl _ _).alloc (Nat.le_refl _) _)
  have HO : Hid ((w.alloc (Obj.cells #[] 22)).ownsRow w.heap.size 22 1 (.slice (some ⟨w.heap.size, 0, none⟩) 0 0) 0 []) := World.ownsRow_made w #[] 0 (Nat.le_refl _) (by unfold maxLen; omega) rfl
  have hrz := blk_lt h.1
  have HR : Hid (w.heap[r]? = some (.cells #[v] 39 (0, 0))) := h.1
  obtain ⟨A, c, rfl⟩ := RowOf.form h.2
  have c0 : w.cell? ⟨r, 0, none⟩ = some (.slice A L.length c) := (blk_cell h.1 0).trans rfl
  have hne : r ≠ w.heap.size := by omega
  clear h
  go_enter Try.func20, Try.ntmps20
  go_wp2_with (at_builtin; refine wpList_append_src (by rfl) _ _ 36 (by rfl) w.heap.size 22 i0 (.float .f64 0) 1 8 Try.underlying36 hii hz0 hz1 hz2 rfl (by omega) (.slice (some ⟨w.heap.size, 0, none⟩) 0 0) 0 [] (by rfl) HO.out (.slice A L.length c) L.length (L.flatMap fltCells) (by rfl) HSRC.out (by unfold maxLen; omega) (by omega) (by simp) ?_)
  intro v1 w1 hown hgrow hat
  try simp only [Nat.zero_add, List.nil_append] at hown
  have HM1 : Hid (Mod (fun _ => False) w w1) := ((Mod.refl (fun _ => False) w).alloc _).grown hgrow (fun k hk => by cases hk; exact Nat.le_refl _)
  have HO1 : Hid ((w1.alloc (.cells #[.float .f64 x] 22)).ownsRow w.heap.size 22 1 v1 L.length (L.flatMap fltCells)) := hown.alloc _
  have HX : Hid (SrcOk (w1.alloc (.cells #[.float .f64 x] 22)) (.slice (some ⟨w1.heap.size, 0, none⟩) 1 1) 1 1 [.float .f64 x]) := SrcOk.block (blk_new w1 _) rfl (fun j u hu => by rw [Nat.zero_add]; simpa using hu) (by simp [Value.oneCell'])
  have hz1' : w.heap.size ≤ w1.heap.size := HM1.out.size
  clear hown hgrow hat HO HSRC c0
  go_wp2_with (at_builtin; refine wpList_append_src (by rfl) _ _ 36 (by rfl) w.heap.size 22 i0 (.float .f64 0) 1 8 Try.underlying36 hii hz0 hz1 hz2 rfl (by omega) v1 L.length (L.flatMap fltCells) (by rfl) HO1.out _ 1 [.float .f64 x] (by rfl) HX.out (by unfold maxLen; omega) (by omega) (by simp; omega) ?_)
  intro v2 w2 hown hgrow hat
  have hm2 : Mod (fun _ => False) w w2 := (HM1.out.alloc _).grown hgrow (fun k hk => own_base HO1.out k hk)
  have hb2 := hm2.blk HR.out (fun x => x)
  have f0 := blk_frozen hb2 0
  have c2 : w2.cell? ⟨r, 0, none⟩ = some (.slice A L.length c) := (blk_cell hb2 0).trans rfl
  have hrow := RowOf.of_own hown
  obtain ⟨A2, cap2, rfl⟩ := RowOf.form hrow
  have HE : Hid (RAdded w r L x (.returned (.tuple #[])) (w2.setCell ⟨r, 0, none⟩ (.slice A2 (L.length + 1) cap2))) := by
    refine ⟨rfl, _, ⟨(blk_set hb2 0 _).trans rfl, ?_⟩, own_base hown, (hm2.mono (T := (· = r)) (fun _ _ x => x.elim)).set (p := ⟨r, 0, none⟩) (fun _ => rfl) _⟩
    have h1 : RowOf (w2.setCell ⟨r, 0, none⟩ (.slice A2 (L.length + 1) cap2)) 22 1 (.slice A2 (L.length + 1) cap2) (L.length + 1) (L.flatMap fltCells ++ [.float .f64 x]) := hrow.keep fun q hq => Below.heap_setCell w2 ⟨r, 0, none⟩ _ q (by obtain ⟨cur, hc⟩ := hrow.block hq; exact blk_ne hc hb2 (by decide))
    have e1 : (L ++ [x]).length = L.length + 1 := by simp
    have e2 : (L ++ [x]).flatMap fltCells = L.flatMap fltCells ++ [.float .f64 x] := by simp [fltCells]
    unfold Fls
    rw [e1, e2]
    exact h1
  clear hown hgrow hat hm2 hb2 hrow HM1 HO1 HX HR
  go_wp2
  go_end0
  exact HE.out
/-- What a call that makes a row leaves. -/
def FGave (w : World) (l : List Nat) (e : Ending) (w' : World) : Prop := ∃ v, e = .returned v ∧ Fls w' v l ∧ Mod (fun _ => False) w w'
/-- Behind k rounds: what was taken of them. -/
def FRel (w : World) (l : List Nat) (v : Value) (wr : World) : Prop := Fls wr v l ∧ Mod (fun _ => False) w wr ∧ ∀ q, v.ownBlock = some q → w.heap.size ≤ q
theorem FRel.put {w wr w' : World} {l : List Nat} {v v' : Value} {x : Nat} (h : FRel w l v wr) (hr : RowOf w' 22 1 v' (l.length + 1) (l.flatMap fltCells ++ [.float .f64 x])) (hg : (wr.alloc (.cells #[.float .f64 x] 22)).grownBy w' v.ownBlock)
    (ho : v'.ownBlock = v.ownBlock ∨ v'.ownBlock = some (wr.heap.size + 1)) : FRel w (l ++ [x]) v' w' := by
  refine ⟨?_, (h.2.1.alloc _).grown hg (fun k hk => h.2.2 k hk), fun q hq => ?_⟩
  · have e1 : (l ++ [x]).length = l.length + 1 := by simp
    have e2 : (l ++ [x]).flatMap fltCells = l.flatMap fltCells ++ [.float .f64 x] := by simp [fltCells]
    unfold Fls
    rw [e1, e2]
    exact hr
  · have := h.2.1.size
    rcases ho with ho | ho
    · exact h.2.2 q (ho ▸ hq)
    · rw [ho] at hq
      have := Option.some.inj hq
      omega
def nums (L : List Nat) : List Nat := L.filter fun x => !isN x
def finB (x : Nat) : Bool := !isN x && !isI x
def fins (L : List Nat) : List Nat := L.filter finB
theorem take_filter (f : Nat → Bool) (L : List Nat) (k : Nat) (h : k < L.length) : (L.take (k + 1)).filter f = if f (L.getD k 0) then (L.take k).filter f ++ [L.getD k 0] else (L.take k).filter f := by
  rw [List.take_succ_eq_append_getElem h, List.filter_append, List.getD_eq_getElem?_getD, List.getElem?_eq_getElem h]
  cases hf : f L[k] <;> simp [hf]
theorem filter_le (f : Nat → Bool) (L : List Nat) (k : Nat) : ((L.take k).filter f).length ≤ k := Nat.le_trans (List.length_filter_le _ _) (List.length_take_le _ _)
set_option maxHeartbeats 4000000 in
theorem rnumbers_any (r : Nat) (v : Value) (L : List Nat) (w : World) (h : RMAt w r v L) (hl : L.length ≤ 1000) (hb : ∀ x ∈ L, x < B64) :
    Calls Try.prog 22 #[.pointer (some ⟨r, 0, none⟩)] w (FGave w (nums L)) := by
  obtain ⟨i0, hii, hz0, hz1, hz2⟩ := info_parts Try.infoFlt
  have HH := Lib.hid h
  have HB := Lib.hid hb
  obtain ⟨A, c, rfl⟩ := RowOf.form h.2
  have HR0 : Hid (FRel w (nums (L.take 0)) (.slice none 0 0) w) := ⟨RowOf.nil _ _ _, Mod.refl _ _, fun q hq => by cases hq⟩
  clear h hb
  go_enter Try.func22, Try.ntmps22
  go_wp2
  go_loopw [3, 4] (fun s i wr => ∃ (k : Nat) (vr : Value), k ≤ L.length ∧ i = .int .i64 k ∧ vr = s ∧ Hid (FRel w (nums (L.take k)) vr wr)) (fun _ i _ => L.length - (intOf i).toNat)
  case atStart => exact ⟨0, _, Nat.zero_le _, rfl, rfl, HR0⟩
  case round =>
    obtain ⟨k, vr, hk, rfl, rfl, hD⟩ := hrel
    have hR := HH.out.same hD.out.2.1
    have c0 : wr.cell? ⟨r, 0, none⟩ = some (.slice A L.length c) := (blk_cell hR.1 0).trans rfl
    by_cases hlt : k < L.length
    · obtain ⟨b, o, rfl, _, hc⟩ := Fls.cell hR.2 hlt
      have hx : L.getD k 0 < B64 := by
        rw [List.getD_eq_getElem?_getD, List.getElem?_eq_getElem hlt]
        exact HB.out _ (List.getElem_mem hlt)
      have htf := take_filter (fun x => !isN x) L k hlt
      have hi : (k : Int) < L.length := by omega
      have hi0 : (0 : Int) ≤ (k : Int) := by omega
      have tk : decide (k < L.length) = true := decide_eq_true hlt
      have hfl := filter_le (fun x => !isN x) L k
      generalize L.getD k 0 = x at *
      have HCL := Lib.hid (rclass_any x wr hx)
      have hcz := classW_zero x
      have hrb := blk_lt hR.1
      have hbb := RowOf.lt hR.2 rfl
      cases hn : isN x
      · rw [hn] at hcz htf
        have tc : (classW x != 0) = true := by simp only [bne, hcz, Bool.not_false]
        have HT : Hid (nums (L.take (k + 1)) = nums (L.take k) ++ [x]) := htf
        have HFL : Hid ((nums (L.take k)).length ≤ k) := hfl
        generalize nums (L.take k) = l at *
        have HRW : Hid (RowOf (wr.alloc (.cells #[.float .f64 x] 22)) 22 1 vr l.length (l.flatMap fltCells)) := RowOf.alloc hD.out.1 _
        have HX : Hid (SrcOk (wr.alloc (.cells #[.float .f64 x] 22)) (.slice (some ⟨wr.heap.size, 0, none⟩) 1 1) 1 1 [.float .f64 x]) := SrcOk.block (blk_new wr _) rfl (fun j u hu => by rw [Nat.zero_add]; simpa using hu) (by simp [Value.oneCell'])
        generalize classW x = cl at *
        clear hfl htf hcz hx hR hn
        go_wp2_with fail
        refine HCL.out.mono ?_
        rintro e w1 ⟨rfl, rfl⟩
        go_wp2_with (at_builtin; refine wpList_append_row (by rfl) _ _ 36 (by rfl) i0 (.float .f64 0) 8 Try.underlying36 hii hz0 hz1 hz2 (by rfl) (by omega) (by rfl) HRW.out (flt_one _) _ 1 [.float .f64 x] (by rfl) HX.out (by have := HFL.out; unfold maxLen; omega) (by have := HFL.out; omega) ?_)
        intro v' w' hv1 hv2 hv3
        have HE : Hid (FRel w (nums (L.take (k + 1))) v' w') := by
          show FRel _ _ _ _
          rw [HT.out]
          exact hD.out.put hv1 hv2 (by simpa using hv3)
        clear hv1 hv2 hv3 c0 hc HRW HX hD
        go_wp2
        go_roundw
        case rel => exact ⟨k + 1, _, by omega, by go_num, rfl, HE⟩
        case measure => simp [intOf]; omega
      · rw [hn] at hcz htf
        have tc : (classW x != 0) = false := by simp only [bne, hcz, Bool.not_true]
        have HE : Hid (FRel w (nums (L.take (k + 1))) vr wr) := by
          have e : nums (L.take (k + 1)) = nums (L.take k) := htf
          show FRel _ _ _ _
          rw [e]
          exact hD.out
        generalize classW x = cl at *
        clear hfl htf hcz hx hR hn hD
        go_wp2_with fail
        refine HCL.out.mono ?_
        rintro e w1 ⟨rfl, rfl⟩
        go_wp2
        go_roundw
        case rel => exact ⟨k + 1, _, by omega, by go_num, rfl, HE⟩
        case measure => simp [intOf]; omega
    · obtain rfl : k = L.length := by omega
      have ti : decide (L.length < L.length) = false := decide_eq_false (by omega)
      have HE : Hid (FGave w (nums L) (.returned vr) wr) := by
        have h := hD.out
        rw [List.take_length] at h
        exact ⟨vr, rfl, h.1, h.2.1⟩
      clear hlt hR hD
      go_wp2
      go_ret
      exact HE.out
theorem class_fin (x : Nat) : (decide (2 ≤ classW x) && decide (classW x ≤ 5)) = finB x := by
  unfold classW finB isI
  cases isN x
  · rw [if_neg (by decide)]
    by_cases h1 : x % B63 = INF
    · rw [if_pos h1, beq_iff_eq.2 h1]
      cases isNeg x <;> rfl
    · rw [if_neg h1, beq_eq_false_iff_ne.2 h1]
      by_cases h2 : x % B63 = 0
      · rw [if_pos h2]
        cases isNeg x <;> rfl
      · rw [if_neg h2]
        cases isNeg x <;> rfl
  · rw [if_pos rfl]; rfl
set_option maxHeartbeats 4000000 in
theorem rfinite_any (r : Nat) (v : Value) (L : List Nat) (w : World) (h : RMAt w r v L) (hl : L.length ≤ 1000) (hb : ∀ x ∈ L, x < B64) :
    Calls Try.prog 23 #[.pointer (some ⟨r, 0, none⟩)] w (FGave w (fins L)) := by
  obtain ⟨i0, hii, hz0, hz1, hz2⟩ := info_parts Try.infoFlt
  have HH := Lib.hid h
  have HB := Lib.hid hb
  obtain ⟨A, c, rfl⟩ := RowOf.form h.2
  have HR0 : Hid (FRel w (fins (L.take 0)) (.slice none 0 0) w) := ⟨RowOf.nil _ _ _, Mod.refl _ _, fun q hq => by cases hq⟩
  clear h hb
  go_enter Try.func23, Try.ntmps23
  go_wp2
  go_loopw [3, 4] (fun s i wr => ∃ (k : Nat) (vr : Value), k ≤ L.length ∧ i = .int .i64 k ∧ vr = s ∧ Hid (FRel w (fins (L.take k)) vr wr)) (fun _ i _ => L.length - (intOf i).toNat)
  case atStart => exact ⟨0, _, Nat.zero_le _, rfl, rfl, HR0⟩
  case round =>
    obtain ⟨k, vr, hk, rfl, rfl, hD⟩ := hrel
    have hR := HH.out.same hD.out.2.1
    have c0 : wr.cell? ⟨r, 0, none⟩ = some (.slice A L.length c) := (blk_cell hR.1 0).trans rfl
    by_cases hlt : k < L.length
    · obtain ⟨b, o, rfl, _, hc⟩ := Fls.cell hR.2 hlt
      have hx : L.getD k 0 < B64 := by
        rw [List.getD_eq_getElem?_getD, List.getElem?_eq_getElem hlt]
        exact HB.out _ (List.getElem_mem hlt)
      have htf := take_filter finB L k hlt
      have hi : (k : Int) < L.length := by omega
      have hi0 : (0 : Int) ≤ (k : Int) := by omega
      have tk : decide (k < L.length) = true := decide_eq_true hlt
      have hfl := filter_le finB L k
      generalize L.getD k 0 = x at *
      have HCL := Lib.hid (rclass_any x wr hx)
      have hcz := class_fin x
      have hrb := blk_lt hR.1
      have hbb := RowOf.lt hR.2 rfl
      cases hn : finB x
      · rw [hn] at hcz htf
        have HE : Hid (FRel w (fins (L.take (k + 1))) vr wr) := by
          have e : fins (L.take (k + 1)) = fins (L.take k) := htf
          show FRel _ _ _ _
          rw [e]
          exact hD.out
        generalize classW x = cl at *
        cases t2 : decide (2 ≤ cl)
        · clear hfl htf hcz hx hR hn hD
          go_wp2_with fail
          refine HCL.out.mono ?_
          rintro e w1 ⟨rfl, rfl⟩
          go_wp2
          go_roundw
          case rel => exact ⟨k + 1, _, by omega, by go_num, rfl, HE⟩
          case measure => simp [intOf]; omega
        · rw [t2, Bool.true_and] at hcz
          clear hfl htf hx hR hn hD
          go_wp2_with fail
          refine HCL.out.mono ?_
          rintro e w1 ⟨rfl, rfl⟩
          go_wp2
          go_roundw
          case rel => exact ⟨k + 1, _, by omega, by go_num, rfl, HE⟩
          case measure => simp [intOf]; omega
      · rw [hn] at hcz htf
        obtain ⟨t2, t3⟩ := Bool.and_eq_true_iff.1 hcz
        have HT : Hid (fins (L.take (k + 1)) = fins (L.take k) ++ [x]) := htf
        have HFL : Hid ((fins (L.take k)).length ≤ k) := hfl
        generalize fins (L.take k) = l at *
        have HRW : Hid (RowOf (wr.alloc (.cells #[.float .f64 x] 22)) 22 1 vr l.length (l.flatMap fltCells)) := RowOf.alloc hD.out.1 _
        have HX : Hid (SrcOk (wr.alloc (.cells #[.float .f64 x] 22)) (.slice (some ⟨wr.heap.size, 0, none⟩) 1 1) 1 1 [.float .f64 x]) := SrcOk.block (blk_new wr _) rfl (fun j u hu => by rw [Nat.zero_add]; simpa using hu) (by simp [Value.oneCell'])
        generalize classW x = cl at *
        clear hfl htf hcz hx hR hn
        go_wp2_with fail
        refine HCL.out.mono ?_
        rintro e w1 ⟨rfl, rfl⟩
        go_wp2_with (at_builtin; refine wpList_append_row (by rfl) _ _ 36 (by rfl) i0 (.float .f64 0) 8 Try.underlying36 hii hz0 hz1 hz2 (by rfl) (by omega) (by rfl) HRW.out (flt_one _) _ 1 [.float .f64 x] (by rfl) HX.out (by have := HFL.out; unfold maxLen; omega) (by have := HFL.out; omega) ?_)
        intro v' w' hv1 hv2 hv3
        have HE : Hid (FRel w (fins (L.take (k + 1))) v' w') := by
          show FRel _ _ _ _
          rw [HT.out]
          exact hD.out.put hv1 hv2 (by simpa using hv3)
        clear hv1 hv2 hv3 c0 hc HRW HX hD
        go_wp2
        go_roundw
        case rel => exact ⟨k + 1, _, by omega, by go_num, rfl, HE⟩
        case measure => simp [intOf]; omega
    · obtain rfl : k = L.length := by omega
      have ti : decide (L.length < L.length) = false := decide_eq_false (by omega)
      have HE : Hid (FGave w (fins L) (.returned vr) wr) := by
        have h := hD.out
        rw [List.take_length] at h
        exact ⟨vr, rfl, h.1, h.2.1⟩
      clear hlt hR hD
      go_wp2
      go_ret
      exact HE.out
end Go.Proofs.Ytpjlplkoiedhjaa
