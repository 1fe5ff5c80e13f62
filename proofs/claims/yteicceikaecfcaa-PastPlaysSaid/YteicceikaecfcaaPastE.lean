/-
  Package past: Can, All, Taken.
-/
import Derived.Test.YteicceikaecfcaaPastD
namespace Go.Proofs.Yteicceikaecfcaa
open Go.RowKit Go.Shoal Go.Maps

/-- May it be taken, and was all taken that came ahead? -/
def Pa.can (s : Pa) (m : Ms) (k p : Nat) : Bool := s.open m k p && (List.range s.all.length).all fun j => !(m.ahead j && s.open (s.all.getD j default) j p)
theorem can_no (B : Nat) (s : Pa) (p f x : Int) (w : World) (h : PastAt w B s) (hno : s.there p = false ∨ findI s.all f x < 0) :
    Calls Try.prog 15 #[.pointer (some ⟨B, 0, none⟩), .int .i64 p, .agg #[.int .i64 f, .int .u64 x]] w (Told w (.bool false)) := by
  have hA := h.same (w' := w.alloc (.cells #[.int .i64 f, .int .u64 x] 34)) ((Mod.refl _ _).alloc _)
  have HM : Hid (Mod (fun _ => False) w (w.alloc (.cells #[.int .i64 f, .int .u64 x] 34))) := (Mod.refl _ w).alloc _
  have HW := Lib.hid (waits_no B s p f x _ hA hno)
  clear h hA hno
  go_enter Try.func15, Try.ntmps15
  go_wp2_with fail
  refine HW.out.mono ?_
  rintro e w1 ⟨rfl, hm⟩
  have HE := Lib.hid (HM.out.trans hm)
  clear hm HW
  go_wp2
  go_ret
  exact ⟨rfl, HE.out⟩
theorem can_shut (B : Nat) (s : Pa) (p k : Nat) (m : Ms) (w : World) (h : PastAt w B s) (hp : p < s.n) (hk : s.all[k]? = some m) (ho : s.open m k p = false) :
    Calls Try.prog 15 #[.pointer (some ⟨B, 0, none⟩), .int .i64 p, .agg #[.int .i64 (m.frm : Int), .int .u64 (m.num : Int)]] w (Told w (.bool (s.can m k p))) := by
  have hA := h.same (w' := w.alloc (.cells #[.int .i64 (m.frm : Int), .int .u64 (m.num : Int)] 34)) ((Mod.refl _ _).alloc _)
  have HM : Hid (Mod (fun _ => False) w (w.alloc (.cells #[.int .i64 (m.frm : Int), .int .u64 (m.num : Int)] 34))) := (Mod.refl _ w).alloc _
  have HW := Lib.hid (waits_at B s p k m _ hA hp hk)
  rw [ho] at HW
  have HC : Hid (s.can m k p = false) := by show _ = _; unfold Pa.can; rw [ho]; rfl
  clear h hA hp hk ho
  go_enter Try.func15, Try.ntmps15
  go_wp2_with fail
  refine HW.out.mono ?_
  rintro e w1 ⟨rfl, hm⟩
  have HE := Lib.hid (HM.out.trans hm)
  clear hm HW
  go_wp2
  go_ret
  exact ⟨by rw [HC.out]; rfl, HE.out⟩
/-- While Can looks at what came ahead. -/
structure CanRel (w : World) (s : Pa) (m : Ms) (p : Nat) (D : DataW Unit) (left : Lit → Bool) (cnt : Nat) (wr : World) : Prop where
  rng : wr.ranges Try.prog 3 (plainElem Try.prog 4) m.blk w.heap.size 1000 D left cnt
  md : Mod (fun _ => False) w wr
  no : ∀ j, m.ahead j = true → left (.int .i64 (j : Int)) = false → s.open (s.all.getD j default) j p = false
theorem CanRel.next {w wr w1 : World} {s : Pa} {m : Ms} {p cnt k cnt1 : Nat} {D : DataW Unit} {left : Lit → Bool} (h : CanRel w s m p D left cnt wr) (hn : NextSet Try.prog 3 4 wr w1 m.blk w.heap.size 1000 m.ahead D left cnt k cnt1)
    (ho : s.open (s.all.getD k default) k p = false) : CanRel w s m p D (fun z => left z && !z.sameKey (.int .i64 (k : Int))) cnt1 w1 := by
  refine ⟨hn.rng, h.md.grown hn.grown (fun q e => by cases e; exact Nat.le_refl _), fun j hj hl => ?_⟩
  by_cases hjk : j = k
  · rw [hjk]; exact ho
  · have hl' : (left (.int .i64 (j : Int)) && !(Lit.int .i64 (j : Int)).sameKey (.int .i64 (k : Int))) = false := hl
    rw [same_int] at hl'
    have e : (j == k) = false := by simp [hjk]
    rw [e] at hl'
    exact h.no j hj (by simpa using hl')
set_option maxRecDepth 100000 in
set_option maxHeartbeats 4000000 in
theorem can_at (B : Nat) (s : Pa) (p k : Nat) (m : Ms) (w : World) (h : PastAt w B s) (hp : p < s.n) (hk : s.all[k]? = some m) (ho : s.open m k p = true) :
    Calls Try.prog 15 #[.pointer (some ⟨B, 0, none⟩), .int .i64 p, .agg #[.int .i64 (m.frm : Int), .int .u64 (m.num : Int)]] w (Told w (.bool (s.can m k p))) := by
  have hA := h.same (w' := w.alloc (.cells #[.int .i64 (m.frm : Int), .int .u64 (m.num : Int)] 34)) ((Mod.refl _ _).alloc _)
  have HA := Lib.hid hA
  have HM : Hid (Mod (fun _ => False) w (w.alloc (.cells #[.int .i64 (m.frm : Int), .int .u64 (m.num : Int)] 34))) := (Mod.refl _ w).alloc _
  have HW := Lib.hid (waits_at B s p k m _ hA hp hk)
  rw [ho] at HW
  have hlt := (List.getElem?_eq_some_iff.1 hk).1
  have hlen := h.ok.len
  have hi0 : (0 : Int) ≤ (k : Int) := by omega
  have hi1 : (k : Int) < (s.all.length : Int) := by omega
  have HX := Lib.hid hk
  have HH1 := Lib.hid (fun (x : Ms) (hx : x ∈ s.all) w => has_any x.to (p : Int) w (h.ok.to x hx))
  have HH2 := Lib.hid (fun j w => has_any (s.had j) (p : Int) w (h.ok.hlt j))
  have HL : Hid (∀ j, m.ahead j = true → j < s.all.length) := fun j hj => by have := h.ok.alt k m j hk hj; omega
  have HC : Hid (s.can m k p = (List.range s.all.length).all fun j => !(m.ahead j && s.open (s.all.getD j default) j p)) := by show _ = _; unfold Pa.can; rw [ho]; rfl
  clear h hA hk ho
  go_enter Try.func15, Try.ntmps15
  go_wp2_with fail
  refine HW.out.mono ?_
  rintro e wv ⟨rfl, hm⟩
  have hP := HA.out.same hm
  have HP := Lib.hid hP
  obtain ⟨c0, _, _, _, _⟩ := hP.cells
  obtain ⟨b, o, cap, he, hb, k0, k1, k2, k3⟩ := hP.elem HX.out
  rw [he] at c0
  have HAV := Lib.hid he
  have HS := Lib.hid (hP.sets m (List.mem_of_getElem? HX.out))
  have HE := Lib.hid (HM.out.trans hm)
  clear hm hP HA HM HW he k0 k1 k2
  obtain ⟨D, hown, hd⟩ := HS.out
  have HD := Lib.hid hd
  have HO := Lib.hid hown
  clear hown hd HS
  go_wp2_with (first
    | (at_range; refine wpList_range_own _ rfl _ 71 rfl 3 4 law_int Try.underlying71 (plainElem Try.prog 4) m.blk 1000 D rfl HO.out ?_; intro w0 hrg0 hg0 hs0)
    | go_in)
  go_frame
  have H0 : Hid (CanRel wv s m p D (Maps.has D) (Maps.size D) w0) := by
    refine ⟨hrg0, Mod.of_grown hg0 (fun k e _ => by cases e), fun j hj hl => ?_⟩
    rw [HD.out.1 j, hj] at hl
    cases hl
  clear hrg0 hg0 hs0 c0 k3
  go_loopw [9, 6] (fun _ v wr => v = .bool false ∧ ∃ (left : Lit → Bool) (cnt : Nat), Hid (CanRel wv s m p D left cnt wr)) (fun _ _ wr => wr.rangeLeft m.blk wv.heap.size)
  case atStart => exact ⟨rfl, _, _, H0⟩
  case round =>
    obtain ⟨rfl, left, cnt, hR⟩ := hrel
    go_wp2_with (first
      | (at_next; refine wpList_next_set _ rfl _ rfl Try.underlying3 Try.underlying4 m.blk wv.heap.size 1000 D HD.out left cnt rfl hR.out.rng ?_ ?_)
      | go_in)
    · intro hl0
      have HF : Hid (s.can m k p = true) := by
        show _ = _
        rw [HC.out, List.all_eq_true]
        intro j _
        cases hj : m.ahead j
        · rfl
        · rw [hR.out.no j hj (hl0.out _)]; rfl
      have HG := Lib.hid (HE.out.trans hR.out.md)
      clear hl0
      go_wp2
      go_ret
      exact ⟨by rw [HF.out]; rfl, HG.out⟩
    · intro j w1 cnt1 HN hen
      have hmj := HN.out.mem
      have hjl := HL.out j hmj
      obtain ⟨x, hx⟩ : ∃ x, s.all[j]? = some x := ⟨_, List.getElem?_eq_getElem hjl⟩
      have hmd : Mod (fun _ => False) wv w1 := hR.out.md.grown HN.out.grown (fun q e => by cases e; exact Nat.le_refl _)
      have hP := HP.out.same hmd
      obtain ⟨c0, _, _, _, c4⟩ := hP.cells
      obtain ⟨b', o', cap', he, hb', k0, k1, k2, k3⟩ := hP.elem hx
      rw [he] at c0
      have hlk := look_had hP.had j (by omega)
      have hj0 : (0 : Int) ≤ (j : Int) := by omega
      have hj1 : (j : Int) < (s.all.length : Int) := by omega
      have H1 := Lib.hid (HH1.out x (List.mem_of_getElem? hx))
      have hg : s.all.getD j default = x := by rw [List.getD_eq_getElem?_getD, hx]; rfl
      have HOJ : Hid (s.open (s.all.getD j default) j p = (inSet x.to (p : Int) && !inSet (s.had j) (p : Int))) := by show _ = _; rw [hg]; rfl
      have HG := Lib.hid (HE.out.trans hmd)
      have HMJ := Lib.hid hmj
      have HJL := Lib.hid hjl
      clear hmj hmd hP he k0 k1 k3 hx hg
      cases h1 : inSet x.to (p : Int)
      · rw [h1] at HOJ
        have HR' : Hid (CanRel wv s m p D (fun z => left z && !z.sameKey (.int .i64 (j : Int))) cnt1 w1) := hR.out.next HN.out (by rw [HOJ.out]; rfl)
        have HQ : Hid (w1.rangeLeft m.blk wv.heap.size < wr.rangeLeft m.blk wv.heap.size) := by
          show _ < _
          rw [HR'.out.rng.left_eq, hR.out.rng.left_eq]
          exact HN.out.less
        go_wp2_with fail
        refine (H1.out _).mono ?_
        rintro e w2 ⟨rfl, rfl⟩
        rw [h1]
        go_wp2
        go_roundw
        case rel => exact ⟨rfl, _, _, HR'⟩
        case measure => exact HQ.out
      · rw [h1] at HOJ
        cases h2 : inSet (s.had j) (p : Int)
        · rw [h2] at HOJ
          have HF : Hid (s.can m k p = false) := by
            show _ = _
            rw [HC.out]
            apply Bool.eq_false_iff.2
            intro hall
            rw [List.all_eq_true] at hall
            have := hall j (List.mem_range.2 HJL.out)
            rw [HMJ.out, HOJ.out] at this
            cases this
          go_wp2_with fail
          refine (H1.out _).mono ?_
          rintro e w2 ⟨rfl, rfl⟩
          rw [h1]
          go_wp2_with fail
          refine (HH2.out j _).mono ?_
          rintro e w2 ⟨rfl, rfl⟩
          rw [h2]
          go_wp2
          go_ret
          exact ⟨by rw [HF.out]; rfl, HG.out⟩
        · rw [h2] at HOJ
          have HR' : Hid (CanRel wv s m p D (fun z => left z && !z.sameKey (.int .i64 (j : Int))) cnt1 w1) := hR.out.next HN.out (by rw [HOJ.out]; rfl)
          have HQ : Hid (w1.rangeLeft m.blk wv.heap.size < wr.rangeLeft m.blk wv.heap.size) := by
            show _ < _
            rw [HR'.out.rng.left_eq, hR.out.rng.left_eq]
            exact HN.out.less
          go_wp2_with fail
          refine (H1.out _).mono ?_
          rintro e w2 ⟨rfl, rfl⟩
          rw [h1]
          go_wp2_with fail
          refine (HH2.out j _).mono ?_
          rintro e w2 ⟨rfl, rfl⟩
          rw [h2]
          go_wp2
          go_roundw
          case rel => exact ⟨rfl, _, _, HR'⟩
          case measure => exact HQ.out
end Go.Proofs.Yteicceikaecfcaa
