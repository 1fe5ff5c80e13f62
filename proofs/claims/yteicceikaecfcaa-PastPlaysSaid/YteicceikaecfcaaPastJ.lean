/-
  Package past: Send that is refused; what Take leaves, as data.
-/
import Derived.Test.YteicceikaecfcaaPastI
namespace Go.Proofs.Yteicceikaecfcaa
open Go.RowKit Go.Shoal Go.Maps

set_option maxHeartbeats 1000000 in
theorem send_arg (B : Nat) (s : Pa) (p : Int) (t : Nat) (w : World) (h : PastAt w B s) (hp : s.there p = false) :
    Calls Try.prog 11 #[.pointer (some ⟨B, 0, none⟩), .int .i64 p, .int .u64 t] w (Told w (.tuple #[noID, .int .i64 1])) := by
  have HH := Lib.hid (has_past B s p _ (h.same (w' := w.alloc (.cells #[.int .i64 0, .int .u64 0] 34)) ((Mod.refl _ _).alloc _)))
  rw [hp] at HH
  have HM : Hid (Mod (fun _ => False) w (w.alloc (.cells #[.int .i64 0, .int .u64 0] 34))) := (Mod.refl _ w).alloc _
  obtain ⟨z0, z1⟩ := two_cells (blk_new w (.cells #[.int .i64 0, .int .u64 0] 34))
  unfold noID
  clear h hp
  go_enter Try.func11, Try.ntmps11
  go_wp2_with fail
  refine HH.out.mono ?_
  rintro e w1 ⟨rfl, rfl⟩
  go_wp2
  refine bodyPost_ret (v := .tuple #[.agg #[.int .i64 0, .int .u64 0], .int .i64 1]) (by simp [results, Try.results11, go_sem, z0, z1]) rfl ⟨rfl, HM.out⟩
set_option maxHeartbeats 4000000 in
theorem send_bad (B : Nat) (s : Pa) (f t : Nat) (w : World) (h : PastAt w B s) (hf : f < s.n) (ht : t < 18446744073709551616) (hg : s.goodTo f t = false) :
    Calls Try.prog 11 #[.pointer (some ⟨B, 0, none⟩), .int .i64 f, .int .u64 t] w (Told w (.tuple #[noID, .int .i64 4])) := by
  have HH := Lib.hid (has_past B s f _ (h.same (w' := w.alloc (.cells #[.int .i64 0, .int .u64 0] 34)) ((Mod.refl _ _).alloc _)))
  rw [s.there_nat, decide_eq_true hf] at HH
  have HT := Lib.hid (fun w => has_any t (f : Int) w ht)
  have HAll := Lib.hid (fun w => all_any (s.n : Int) w)
  have HW := Lib.hid (fun w => within_any t (allOf s.n) w ht (allOf_lt _))
  have HM : Hid (Mod (fun _ => False) w (w.alloc (.cells #[.int .i64 0, .int .u64 0] 34))) := (Mod.refl _ w).alloc _
  obtain ⟨z0, z1⟩ := two_cells (blk_new w (.cells #[.int .i64 0, .int .u64 0] 34))
  obtain ⟨c0, c1, _⟩ := h.cells
  have hBz := blk_lt h.top
  unfold noID
  unfold Pa.goodTo at hg
  by_cases h1 : t = 0
  · have g1 : ((t : Int) == 0) = true := by rw [beq_iff_eq]; omega
    clear h hf hg h1
    go_enter Try.func11, Try.ntmps11
    go_wp2_with fail
    refine HH.out.mono ?_
    rintro e w1 ⟨rfl, rfl⟩
    go_wp2
    refine bodyPost_ret (v := .tuple #[.agg #[.int .i64 0, .int .u64 0], .int .i64 4]) (by simp [results, Try.results11, go_sem, z0, z1]) rfl ⟨rfl, HM.out⟩
  have g1 : ((t : Int) == 0) = false := by rw [beq_eq_false_iff_ne]; omega
  have h1' : (t == 0) = false := by rw [beq_eq_false_iff_ne]; exact h1
  cases h2 : inSet t (f : Int)
  · rw [h2] at HT hg
    have h3 : decide (lessOf t (allOf s.n) = 0) = false := by
      rw [h1'] at hg
      simpa using hg
    rw [h3] at HW
    clear h hf hg h1 h1' h3
    go_enter Try.func11, Try.ntmps11
    go_wp2_with fail
    refine HH.out.mono ?_
    rintro e w1 ⟨rfl, rfl⟩
    go_wp2_with fail
    refine (HT.out _).mono ?_
    rintro e w1 ⟨rfl, rfl⟩
    go_wp2_with fail
    refine (HAll.out _).mono ?_
    rintro e w1 ⟨rfl, rfl⟩
    go_wp2_with fail
    refine (HW.out _).mono ?_
    rintro e w1 ⟨rfl, rfl⟩
    go_wp2
    refine bodyPost_ret (v := .tuple #[.agg #[.int .i64 0, .int .u64 0], .int .i64 4]) (by simp [results, Try.results11, go_sem, z0, z1]) rfl ⟨rfl, HM.out⟩
  · rw [h2] at HT
    clear h hf hg h1 h1'
    go_enter Try.func11, Try.ntmps11
    go_wp2_with fail
    refine HH.out.mono ?_
    rintro e w1 ⟨rfl, rfl⟩
    go_wp2_with fail
    refine (HT.out _).mono ?_
    rintro e w1 ⟨rfl, rfl⟩
    go_wp2
    refine bodyPost_ret (v := .tuple #[.agg #[.int .i64 0, .int .u64 0], .int .i64 4]) (by simp [results, Try.results11, go_sem, z0, z1]) rfl ⟨rfl, HM.out⟩
theorem take_shut (B : Nat) (s : Pa) (p f x r : Int) (w : World) (h : PastAt w B s)
    (HW : ∀ W, PastAt W B s → Calls Try.prog 30 #[.pointer (some ⟨B, 0, none⟩), .int .i64 p, .agg #[.int .i64 f, .int .u64 x]] W (Told W (.tuple #[.int .i64 r, .bool false]))) :
    Calls Try.prog 12 #[.pointer (some ⟨B, 0, none⟩), .int .i64 p, .agg #[.int .i64 f, .int .u64 x]] w (Told w (.bool false)) := by
  have HC := Lib.hid (HW _ (h.same (w' := w.alloc (.cells #[.int .i64 f, .int .u64 x] 34)) ((Mod.refl _ _).alloc _)))
  have HM : Hid (Mod (fun _ => False) w (w.alloc (.cells #[.int .i64 f, .int .u64 x] 34))) := (Mod.refl _ w).alloc _
  clear h HW
  go_enter Try.func12, Try.ntmps12
  go_wp2_with fail
  refine HC.out.mono ?_
  rintro e w1 ⟨rfl, hm⟩
  have HE := Lib.hid (HM.out.trans hm)
  clear hm HC
  go_wp2
  go_ret
  exact ⟨rfl, HE.out⟩
theorem take_no (B : Nat) (s : Pa) (p f x : Int) (w : World) (h : PastAt w B s) (hno : s.there p = false ∨ findI s.all f x < 0) :
    Calls Try.prog 12 #[.pointer (some ⟨B, 0, none⟩), .int .i64 p, .agg #[.int .i64 f, .int .u64 x]] w (Told w (.bool false)) :=
  take_shut B s p f x 0 w h fun W hW => waits_no B s p f x W hW hno
theorem take_not (B : Nat) (s : Pa) (p k : Nat) (m : Ms) (w : World) (h : PastAt w B s) (hp : p < s.n) (hk : s.all[k]? = some m) (ho : s.open m k p = false) :
    Calls Try.prog 12 #[.pointer (some ⟨B, 0, none⟩), .int .i64 p, .agg #[.int .i64 (m.frm : Int), .int .u64 (m.num : Int)]] w (Told w (.bool false)) :=
  take_shut B s p _ _ k w h fun W hW => by
    have := waits_at B s p k m W hW hp hk
    rw [ho] at this
    exact this
/-- Behind a Take. -/
def Pa.took (s : Pa) (m : Ms) (k p : Nat) (v : Value) : Pa :=
  { s with
    knows := (fun q => if q = p then (fun j => (s.knows p j || m.ahead j) || j == k) else s.knows q)
    had := (fun j => if j = k then s.had k ||| oneOf (p : Int) else s.had j)
    got := (fun q => if q = p then s.got p ++ [k] else s.got q)
    tv := (fun q => if q = p then v else s.tv q) }
theorem inSet_or (x y : Nat) (q : Int) : inSet (x ||| y) q = (inSet x q || inSet y q) := by
  unfold inSet
  rw [Nat.testBit_or]
  cases decide (0 ≤ q) <;> cases decide (q < 64) <;> simp
theorem inSet_one (p q : Nat) (hp : p < 64) : inSet (oneOf p) (q : Int) = (q == p) := by
  rw [inSet_nat _ _ (oneOf_lt _), testBit_oneOf]
  by_cases h : q = p
  · subst h; simp; omega
  · have : ¬ ((q : Int) = (p : Int) ∧ q < 64) := by omega
    simp [h, this]
theorem Pa.Ok.took {s : Pa} (h : s.Ok) {m : Ms} {k p : Nat} {v : Value} (hp : p < s.n) (hk : s.all[k]? = some m) (ho : s.open m k p = true) : (s.took m k p v).Ok := by
  have hklt := (List.getElem?_eq_some_iff.1 hk).1
  have hn := h.n16
  obtain ⟨ho1, ho2⟩ : inSet m.to (p : Int) = true ∧ inSet (s.had k) (p : Int) = false := by
    unfold Pa.open at ho
    simpa using ho
  have hnot : k ∉ s.got p := by
    intro hmem
    have := h.hin k p hp
    rw [ho2, decide_eq_true hmem] at this
    cases this
  have hkn : ∀ q j, (s.took m k p v).knows q j = true → s.knows q j = true ∨ (q = p ∧ (m.ahead j = true ∨ j = k)) := by
    intro q j hj
    unfold Pa.took at hj
    by_cases e : q = p
    · subst e
      simp only [if_true, Bool.or_eq_true, beq_iff_eq] at hj
      rcases hj with (hj | hj) | hj
      · exact .inl hj
      · exact .inr ⟨rfl, .inl hj⟩
      · exact .inr ⟨rfl, .inr hj⟩
    · simp only [if_neg e] at hj
      exact .inl hj
  have hkn1 : ∀ q j, s.knows q j = true → (s.took m k p v).knows q j = true := by
    intro q j hj
    unfold Pa.took
    by_cases e : q = p
    · subst e; simp [hj]
    · simp [e, hj]
  have hkn2 : ∀ j, m.ahead j = true → (s.took m k p v).knows p j = true := by
    intro j hj
    unfold Pa.took
    simp [hj]
  have hgot : ∀ q j, j ∈ (s.took m k p v).got q → j ∈ s.got q ∨ (q = p ∧ j = k) := by
    intro q j hj
    unfold Pa.took at hj
    by_cases e : q = p
    · subst e
      simp only [if_true, List.mem_append, List.mem_singleton] at hj
      exact hj.imp id fun e => ⟨rfl, e⟩
    · simp only [if_neg e] at hj
      exact .inl hj
  refine ⟨h.n1, h.n16, h.len, h.frm, h.to, h.num, h.alt, fun q j hj => ?_, fun q j x i hj hx hi => ?_, h.acl, fun q j hj => ?_, fun q => ?_, fun q j x hj hx => ?_, fun j => ?_, fun j q hq => ?_⟩
  · rcases hkn q j hj with h1 | ⟨_, h1 | h1⟩
    · exact h.klt q j h1
    · have h2 := h.alt k m j hk h1
      exact Nat.lt_trans h2 hklt
    · rw [h1]; exact hklt
  · rcases hkn q j hj with h1 | ⟨rfl, h1 | h1⟩
    · exact hkn1 q i (h.kcl q j x i h1 hx hi)
    · exact hkn2 i (h.acl k j m x i hk h1 hx hi)
    · rw [h1] at hx
      have hx' : s.all[k]? = some x := hx
      rw [hk] at hx'
      cases hx'
      exact hkn2 i hi
  · rcases hgot q j hj with h1 | ⟨_, rfl⟩
    · exact h.glt q j h1
    · exact hklt
  · show (if q = p then s.got p ++ [k] else s.got q).Nodup
    by_cases e : q = p
    · rw [if_pos e]
      refine List.nodup_append.2 ⟨h.gnd p, by simp, fun a ha b hb e => ?_⟩
      obtain rfl := List.mem_singleton.1 hb
      exact hnot (e ▸ ha)
    · rw [if_neg e]
      exact h.gnd q
  · rcases hgot q j hj with h1 | ⟨rfl, rfl⟩
    · exact h.gto q j x h1 hx
    · have hx' : s.all[j]? = some x := hx
      rw [hk] at hx'
      cases hx'
      exact ho1
  · show (if j = k then s.had k ||| oneOf p else s.had j) < _
    split
    · exact or_lt (h.hlt k) (oneOf_lt _)
    · exact h.hlt j
  · show inSet (if j = k then s.had k ||| oneOf p else s.had j) q = decide (j ∈ if q = p then s.got p ++ [k] else s.got q)
    have hq' : q < s.n := hq
    by_cases hjk : j = k
    · subst hjk
      rw [if_pos rfl, inSet_or, inSet_one p q (by omega), h.hin j q hq']
      by_cases hqp : q = p
      · subst hqp; simp
      · simp [hqp]
    · rw [if_neg hjk, h.hin j q hq']
      by_cases hqp : q = p
      · subst hqp; simp [hjk]
      · simp [hqp]
/-- Which blocks a Take writes. -/
def TakeS (s : Pa) (p b : Nat) : Prop := b = s.hB ∨ b = s.kb p ∨ (s.tv p).ownBlock = some b ∨ b = s.tB
theorem trow_set (s : Pa) (m : Ms) (k p : Nat) (v : Value) : s.trow.setIfInBounds p v = (s.took m k p v).trow := by
  unfold Pa.trow
  apply Array.ext_getElem?
  intro i
  by_cases hi : i < s.n
  · have e2 : ((List.range (s.took m k p v).n).map fun q => (s.took m k p v).tv q).toArray[i]? = some (if i = p then v else s.tv i) := row_at _ hi
    rw [e2]
    by_cases hip : i = p
    · subst hip
      rw [Array.getElem?_setIfInBounds, if_pos rfl, if_pos (by simpa using hi), if_pos rfl]
    · rw [Array.getElem?_setIfInBounds, if_neg (fun e => hip e.symm), if_neg hip, row_at _ hi]
  · rw [Array.getElem?_eq_none (by simp; omega), Array.getElem?_eq_none (by simp [Pa.took]; omega)]
theorem PastAt.take {w W : World} {B : Nat} {s : Pa} (h : PastAt w B s) {m : Ms} {k p : Nat} {v : Value} (hp : p < s.n) (hk : s.all[k]? = some m) (ho : s.open m k p = true) (hm : Mod (TakeS s p) w W)
    (htrow : W.heap[s.tB]? = some (.cells (s.took m k p v).trow 28 (0, 0))) (hhad : HadAt W s.hB (s.took m k p v).had) (hset : SetsAt W (s.kb p) (fun j => (s.knows p j || m.ahead j) || j == k))
    (hrow : RowOf W 34 2 v ((s.got p).length + 1) ((s.names p).flatMap nameCells ++ [.int .i64 (m.frm : Int), .int .u64 (m.num : Int)])) (hv : ∀ b, v.ownBlock = some b → (s.tv p).ownBlock = some b ∨ w.heap.size ≤ b) : PastAt W B (s.took m k p v) := by
  obtain ⟨ef, cf, mf⟩ := (h.ks p hp).isMap
  obtain ⟨eh, ch, mh⟩ := h.had.isMap
  have hnb : ∀ g cs t', w.heap[g]? = some (.cells cs t' (0, 0)) → t' ≠ 34 → t' ≠ 28 → ¬ TakeS s p g := by
    intro g cs t' hg h1 h2 hs
    rcases hs with rfl | rfl | hs | rfl
    · exact ne_map hg mh rfl
    · exact ne_map hg mf rfl
    · exact row_ne (h.ts p hp) hg (Ne.symm h1) _ hs rfl
    · exact blk_ne hg h.trow h2 rfl
  have hnm : ∀ g es c, w.heap[g]? = some (.map es c) → g ≠ s.hB → g ≠ s.kb p → ¬ TakeS s p g := by
    intro g es c hg h1 h2 hs
    rcases hs with rfl | rfl | hs | rfl
    · exact h1 rfl
    · exact h2 rfl
    · exact row_map (h.ts p hp) hg _ hs rfl
    · exact ne_map h.trow hg rfl
  refine ⟨hm.blk h.top (hnb _ _ _ h.top (by decide) (by decide)), ?_, hm.blk h.krow (hnb _ _ _ h.krow (by decide) (by decide)), hm.blk h.crow (hnb _ _ _ h.crow (by decide) (by decide)), htrow, hhad, fun q hq => ?_, fun x hx => ?_, fun q hq => ?_, h.ok.took hp hk ho, ?_⟩
  · refine h.all.mod hm (fun b hb => ?_)
    obtain ⟨cur, hc⟩ := h.all.block hb
    exact hnb _ _ _ hc (by decide) (by decide)
  · show SetsAt W (s.kb q) (if q = p then (fun j => (s.knows p j || m.ahead j) || j == k) else s.knows q)
    by_cases e : q = p
    · rw [if_pos e, e]; exact hset
    · rw [if_neg e]
      obtain ⟨eq, cq, mq⟩ := (h.ks q hq).isMap
      exact (h.ks q hq).mod hm (hnm _ _ _ mq (fun e => h.apart.hk q hq e.symm) (fun hk => e (h.apart.kk q p hq hp hk)))
  · obtain ⟨em, cm, mm⟩ := (h.sets x hx).isMap
    exact (h.sets x hx).mod hm (hnm _ _ _ mm (fun e => h.apart.ha x hx e.symm) (fun e => h.apart.ka p x hp hx e.symm))
  · show RowOf W _ 2 (if q = p then v else s.tv q) (if q = p then s.got p ++ [k] else s.got q).length (((if q = p then s.got p ++ [k] else s.got q).map (nameAt s.all)).flatMap nameCells)
    by_cases e : q = p
    · rw [if_pos e, if_pos e, List.length_append, List.map_append, List.flatMap_append]
      have e1 : ([k].map (nameAt s.all)).flatMap nameCells = [.int .i64 (m.frm : Int), .int .u64 (m.num : Int)] := by
        simp [nameAt, nameCells, hk]
      rw [e1]
      exact hrow
    · rw [if_neg e, if_neg e]
      refine (h.ts q hq).mod hm (fun b hb hs => ?_)
      obtain ⟨cur, hc⟩ := (h.ts q hq).block hb
      rcases hs with rfl | rfl | hs | rfl
      · exact ne_map hc mh rfl
      · exact ne_map hc mf rfl
      · exact e (h.apart.tt q p b hq hp hb hs)
      · exact blk_ne hc h.trow (by decide) rfl
  · refine ⟨h.apart.kk, h.apart.aa, h.apart.ka, h.apart.hk, h.apart.ha, fun q r b hq hr hb hb' => ?_⟩
    have hb1 : (if q = p then v else s.tv q).ownBlock = some b := hb
    have hb2 : (if r = p then v else s.tv r).ownBlock = some b := hb'
    have hold : ∀ q b, q < s.n → q ≠ p → (s.tv q).ownBlock = some b → v.ownBlock = some b → False := by
      intro q b hq hqp h1 h2
      rcases hv b h2 with h3 | h3
      · exact hqp (h.apart.tt q p b hq hp h1 h3)
      · have := (h.ts q hq).lt h1
        omega
    by_cases e1 : q = p <;> by_cases e2 : r = p
    · omega
    · rw [if_pos e1] at hb1
      rw [if_neg e2] at hb2
      exact (hold r b hr e2 hb2 hb1).elim
    · rw [if_neg e1] at hb1
      rw [if_pos e2] at hb2
      exact (hold q b hq e1 hb1 hb2).elim
    · rw [if_neg e1] at hb1
      rw [if_neg e2] at hb2
      exact h.apart.tt q r b hq hr hb1 hb2
end Go.Proofs.Yteicceikaecfcaa
