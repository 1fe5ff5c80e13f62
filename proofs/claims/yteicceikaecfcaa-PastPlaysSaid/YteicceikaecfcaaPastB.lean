/-
  Package past: where a message lies.
-/
import Derived.Test.YteicceikaecfcaaPastA
import Derived.Test.YteicceikaecfcaaFlat
import Derived.Laws.StructEq
import Derived.Outline
namespace Go.Proofs.Yteicceikaecfcaa
open Go.RowKit Go.Shoal Go.Maps

/-- A message of the truth; its set's block. -/
structure Ms where
  frm : Nat
  num : Nat
  to : Nat
  ahead : Nat → Bool
  blk : Nat
instance : Inhabited Ms := ⟨⟨0, 0, 0, fun _ => false, 0⟩⟩
def Ms.cells (m : Ms) : List Value := [.int .i64 (m.frm : Int), .int .u64 (m.num : Int), .int .u64 (m.to : Int), .map (some m.blk)]
theorem Ms.len (m : Ms) : m.cells.length = 4 := rfl
theorem Ms.one (m : Ms) : ∀ u ∈ m.cells, u.oneCell' = true := by
  intro u hu
  simp only [Ms.cells, List.mem_cons, List.not_mem_nil, or_false] at hu
  rcases hu with rfl | rfl | rfl | rfl <;> rfl
/-- Is it the one of that name? -/
def Ms.is (m : Ms) (f x : Int) : Bool := ((m.frm : Int) == f) && ((m.num : Int) == x)
def idV (f x : Int) : Value := .agg #[.int .i64 f, .int .u64 x]
theorem eql_id (a b c d : Int) (w : World) : (Op.equalIn 10000 34 (.agg #[.int .i64 a, .int .u64 b]) (.agg #[.int .i64 c, .int .u64 d])).run Try.prog w = .ok ((a == c) && (b == d)) w := by
  have ht : Try.prog.underlying 34 = some (.struct (Try.prog.fieldsOf 34)) := by kernel_rfl
  have hp : Try.prog.stoodInHeld 34 = false := by kernel_rfl
  rw [run_equalIn_struct (P := Try.prog) w 9999 34 _ _ ht hp]
  cases h1 : a == c <;> cases h2 : b == d <;> simp [go_sem, h1, h2]
theorem guard_id : Try.prog.eqGuardType Try.prog.depth 34 = false := by kernel_rfl
set_option maxHeartbeats 1000000 in
theorem is_any (m : Ms) (f x : Int) (g : Nat) (w : World) (hg : w.heap[g]? = some (.cells #[.int .i64 f, .int .u64 x] 34 (0, 0))) :
    Calls Try.prog 37 #[.agg #[.int .i64 (m.frm : Int), .int .u64 (m.num : Int), .int .u64 (m.to : Int), .map (some m.blk)], .pointer (some ⟨g, 0, none⟩)] w fun e w' => e = .returned (.bool (m.is f x)) ∧ Mod (fun _ => False) w w' := by
  have c0 := (blk_cell hg 0).trans rfl
  have c1 := (blk_cell hg 1).trans rfl
  have he := fun w => eql_id (m.frm : Int) (m.num : Int) f x w
  have hq := guard_id
  have hgz := blk_lt hg
  have HM : ∀ o, Hid (Mod (fun _ => False) w (w.alloc o)) := fun o => (Mod.refl _ w).alloc o
  have HI : Hid (m.is f x = (((m.frm : Int) == f) && ((m.num : Int) == x))) := rfl
  generalize m.is f x = r at *
  clear hg
  go_enter Try.func37, Try.ntmps37
  go_wp2

  go_ret
  exact ⟨by rw [HI.out]; rfl, (HM _).out⟩
/-- Where it lies. -/
def findI (l : List Ms) (f x : Int) : Int := match l.findIdx? (fun m => m.is f x) with | some k => (k : Int) | none => -1
set_option maxHeartbeats 2000000 in
theorem index_any (v : Value) (l : List Ms) (f x : Int) (g : Nat) (w : World) (h : RowOf w 73 4 v l.length (l.flatMap Ms.cells)) (hl : l.length ≤ 1000) (hg : w.heap[g]? = some (.cells #[.int .i64 f, .int .u64 x] 34 (0, 0))) :
    Calls Try.prog 36 #[v, .func (.func 37) #[] #[.pointer (some ⟨g, 0, none⟩)]] w fun e w' => e = .returned (.int .i64 (findI l f x)) ∧ Mod (fun _ => False) w w' := by
  have HR := Lib.hid h
  have HG := Lib.hid hg
  obtain ⟨A, c, rfl⟩ := h.form
  have H0 : Hid ((∀ m ∈ l.take 0, m.is f x = false) ∧ Mod (fun _ => False) w w) := ⟨by simp, Mod.refl _ _⟩
  clear h hg
  go_enter Try.func36, Try.ntmps36
  go_wp2
  go_loopw [8] (fun i wr => ∃ k : Nat, k ≤ l.length ∧ i = .int .i64 k ∧ Hid ((∀ m ∈ l.take k, m.is f x = false) ∧ Mod (fun _ => False) w wr)) (fun i _ => l.length - (intOf i).toNat)
  case atStart => exact ⟨0, Nat.zero_le _, rfl, H0⟩
  case round =>
    obtain ⟨k, hk, rfl, hA⟩ := hrel
    by_cases hlt : k < l.length
    · obtain ⟨m, hm⟩ : ∃ m, l[k]? = some m := ⟨_, List.getElem?_eq_getElem hlt⟩
      obtain ⟨b, o, cap, he, hb, hcs⟩ := (HR.out.mod hA.out.2 (fun _ _ x => x)).elem Ms.len hm
      cases he
      have k0 := hcs 0 _ rfl
      have k1 := hcs 1 _ rfl
      have k2 := hcs 2 _ rfl
      have k3 := hcs 3 _ rfl
      rw [Nat.add_zero] at k0
      have HM := Lib.hid hm
      have HN := Lib.hid (is_any m f x g wr (hA.out.2.blk HG.out (fun x => x)))
      have hi : (k : Int) < l.length := by omega
      clear hcs hm hb
      go_wp2_with fail
      refine HN.out.mono ?_
      rintro e w1 ⟨rfl, hmd⟩
      have HD := Lib.hid (hA.out.2.trans hmd)
      clear hmd
      cases hs : m.is f x
      · have HY : Hid ((∀ m ∈ l.take (k + 1), m.is f x = false) ∧ Mod (fun _ => False) w w1) := by
          refine ⟨fun y hy => ?_, HD.out⟩
          rw [List.take_add_one, HM.out] at hy
          rcases List.mem_append.1 hy with hy | hy
          · exact hA.out.1 y hy
          · have : y = m := by simpa using hy
            rw [this]; exact hs
        clear hs
        go_wp2
        go_roundw
        case rel => exact ⟨k + 1, by omega, by go_num, HY⟩
        case measure => simp [intOf]; omega
      · have HY : Hid (findI l f x = (k : Int)) := by
          show _ = _
          have e : l.findIdx? (fun m => m.is f x) = some k := by
            rw [List.findIdx?_eq_some_iff_getElem]
            have hlk := (List.getElem?_eq_some_iff.1 HM.out)
            refine ⟨hlt, by rw [hlk.2]; exact hs, fun j hj => ?_⟩
            have h1 := hA.out.1 l[j] (List.mem_take_iff_getElem.2 ⟨j, by omega, rfl⟩)
            simpa using h1
          unfold findI
          rw [e]
        clear hs
        go_wp2
        go_ret
        exact ⟨by rw [HY.out]; rfl, HD.out⟩
    · have hke : Hid (k = l.length) := by show _ = _; omega
      have HY : Hid (findI l f x = -1) := by
        show _ = _
        have e : l.findIdx? (fun m => m.is f x) = none := by
          rw [List.findIdx?_eq_none_iff]
          intro y hy
          exact hA.out.1 y (by rw [hke.out, List.take_length]; exact hy)
        unfold findI
        rw [e]
      have HD := Lib.hid hA.out.2
      go_wp2
      go_ret
      exact ⟨by rw [HY.out]; rfl, HD.out⟩
end Go.Proofs.Yteicceikaecfcaa
