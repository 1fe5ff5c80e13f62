/-
  Package past: All, Taken.
-/
import Derived.Test.YteicceikaecfcaaPastE
namespace Go.Proofs.Yteicceikaecfcaa
open Go.RowKit Go.Shoal Go.Maps

theorem Try.infoID : (Try.prog.info? 34).map (fun i => (i.zero, i.size, i.bytes)) = some (some (.agg #[.int .i64 0, .int .u64 0]), 2, 16) := by kernel_rfl
/-- A slice of names. -/
def Names (w : World) (v : Value) (l : List (Nat × Nat)) : Prop := RowOf w 34 2 v l.length (l.flatMap nameCells)
theorem nameCells_one (l : List (Nat × Nat)) : ∀ u ∈ l.flatMap nameCells, u.oneCell' = true := by
  intro u hu
  obtain ⟨p, _, hp⟩ := List.mem_flatMap.1 hu
  simp only [nameCells, List.mem_cons, List.not_mem_nil, or_false] at hp
  rcases hp with rfl | rfl <;> rfl
def Gave (w : World) (l : List (Nat × Nat)) (e : Ending) (w' : World) : Prop := ∃ v, e = .returned v ∧ Names w' v l ∧ Mod (fun _ => False) w w' ∧ ∀ q, v.ownBlock = some q → w.heap.size ≤ q
set_option maxHeartbeats 1000000 in
theorem clone_names (v : Value) (l : List (Nat × Nat)) (w : World) (h : Names w v l) (hl : l.length ≤ 1000) : Calls Try.prog 32 #[v] w (Gave w l) := by
  obtain ⟨i0, hii, hz0, hz1, hz2⟩ := info_parts Try.infoID
  have hnil := fun (a : Option Addr) (n c : Nat) (w : World) => Lib.run_eql_slice_nil (P := Try.prog) w 28 34 a n c 0 0 Try.underlying28
  have HS := Lib.hid (RowOf.src h (nameCells_one l))
  have HH := Lib.hid h
  obtain ⟨A, c, rfl⟩ := RowOf.form h
  cases A with
  | none =>
    have h0 : l = [] := by
      rcases h.2 with ⟨_, h⟩ | ⟨b, o, cap, cur, h, _⟩
      · exact List.eq_nil_of_length_eq_zero h
      · cases h
    subst h0
    have HC : Hid (Gave w [] (.returned (.slice none 0 0)) w) := ⟨_, rfl, RowOf.nil _ _ _, Mod.refl _ _, fun q hq => by cases hq⟩
    clear h HS HH
    go_enter Try.func32, Try.ntmps32
    go_wp2
    go_ret
    exact HC.out
  | some a =>
    have HO : Hid ((w.alloc (Obj.cells #[] 34)).ownsRow w.heap.size 34 2 (.slice (some ⟨w.heap.size, 0, none⟩) 0 0) 0 []) := World.ownsRow_made w #[] 0 (Nat.le_refl _) (by unfold maxLen; omega) rfl
    have HB : Hid (SrcOk (w.alloc (Obj.cells #[] 34)) (.slice (some a) l.length c) l.length 2 (l.flatMap nameCells)) := HS.out.below ((Below.refl _ _).alloc (Nat.le_refl _) _)
    clear h HS HH
    go_enter Try.func32, Try.ntmps32
    go_wp2_with (at_builtin; refine wpList_append_src (by rfl) _ _ 28 (by rfl) w.heap.size 34 i0 (.agg #[.int .i64 0, .int .u64 0]) 2 16 Try.underlying28 hii hz0 hz1 hz2 rfl (by omega) (.slice (some ⟨w.heap.size, 0, none⟩) 0 0) 0 [] (by rfl) HO.out (.slice (some a) l.length c) l.length (l.flatMap nameCells) (by rfl) HB.out (by unfold maxLen; omega) (by omega) (by simp) ?_)
    intro v1 w1 hown hgrow hat
    try simp only [Nat.zero_add, List.nil_append] at hown
    have HC : Hid (Gave w l (.returned v1) w1) := ⟨v1, rfl, RowOf.of_own hown, ((Mod.refl (fun _ => False) w).alloc _).grown hgrow (fun k hk => by cases hk; exact Nat.le_refl _), own_base hown⟩
    clear hown hgrow hat
    go_wp2
    go_ret
    exact HC.out
theorem PastAt.names {w : World} {B : Nat} {s : Pa} (h : PastAt w B s) {q : Nat} (hq : q < s.n) : Names w (s.tv q) (s.names q) := by
  have := h.ts q hq
  unfold Names
  rw [show (s.names q).length = (s.got q).length from List.length_map ..]
  exact this
theorem PastAt.got_le {w : World} {B : Nat} {s : Pa} (h : PastAt w B s) (q : Nat) : (s.names q).length ≤ 1000 := by
  rw [show (s.names q).length = (s.got q).length from List.length_map ..]
  exact Nat.le_trans (pigeon s.all.length (s.got q) (h.ok.gnd q) (h.ok.glt q)) h.ok.len
theorem taken_no (B : Nat) (s : Pa) (p : Int) (w : World) (h : PastAt w B s) (hno : s.there p = false) :
    Calls Try.prog 16 #[.pointer (some ⟨B, 0, none⟩), .int .i64 p] w (Gave w []) := by
  have HH := Lib.hid (has_past B s p w h)
  rw [hno] at HH
  have HC : Hid (Gave w [] (.returned (.slice none 0 0)) w) := ⟨_, rfl, RowOf.nil _ _ _, Mod.refl _ _, fun q hq => by cases hq⟩
  clear h hno
  go_enter Try.func16, Try.ntmps16
  go_wp2_with fail
  refine HH.out.mono ?_
  rintro e w1 ⟨rfl, rfl⟩
  go_wp2
  go_ret
  exact HC.out
theorem taken_at (B : Nat) (s : Pa) (p : Nat) (w : World) (h : PastAt w B s) (hp : p < s.n) :
    Calls Try.prog 16 #[.pointer (some ⟨B, 0, none⟩), .int .i64 p] w (Gave w (s.names p)) := by
  have HH := Lib.hid (has_past B s p w h)
  rw [s.there_nat, decide_eq_true hp] at HH
  obtain ⟨_, _, _, c3, _⟩ := h.cells
  have t0 := h.tcell hp
  have HC := Lib.hid (clone_names (s.tv p) (s.names p) w (h.names hp) (h.got_le p))
  have hi0 : (0 : Int) ≤ (p : Int) := by omega
  have hi1 : (p : Int) < (s.n : Int) := by omega
  clear h hp
  go_enter Try.func16, Try.ntmps16
  go_wp2_with fail
  refine HH.out.mono ?_
  rintro e w1 ⟨rfl, rfl⟩
  go_wp2_with fail
  refine HC.out.mono ?_
  rintro e w2 ⟨v, rfl, hn⟩
  have HE := Lib.hid hn
  clear hn
  go_wp2
  go_ret
  exact ⟨v, rfl, HE.out⟩
/-- All names. -/
def Pa.allNames (s : Pa) : List (Nat × Nat) := s.all.map fun m => (m.frm, m.num)
/-- While All tells. -/
def AllRel (w : World) (s : Pa) (k : Nat) (v : Value) (wr : World) : Prop := Names wr v (s.allNames.take k) ∧ Mod (fun _ => False) w wr ∧ ∀ q, v.ownBlock = some q → w.heap.size ≤ q
set_option maxHeartbeats 2000000 in
theorem all_past (B : Nat) (s : Pa) (w : World) (h : PastAt w B s) : Calls Try.prog 10 #[.pointer (some ⟨B, 0, none⟩)] w (Gave w s.allNames) := by
  obtain ⟨i0, hii, hz0, hz1, hz2⟩ := info_parts Try.infoID
  have HP := Lib.hid h
  have hlen := h.ok.len
  obtain ⟨c0, _⟩ := h.cells
  obtain ⟨A, c, hav⟩ := h.all.form
  rw [hav] at c0
  have HAV := Lib.hid hav
  have H0 : Hid (AllRel w s 0 (.slice none 0 0) w) := ⟨RowOf.nil _ _ _, Mod.refl _ _, fun q hq => by cases hq⟩
  clear h hav
  go_enter Try.func10, Try.ntmps10
  go_wp2
  go_loopw [3, 11] (fun v i wr => ∃ k : Nat, k ≤ s.all.length ∧ i = .int .i64 k ∧ Hid (AllRel w s k v wr)) (fun _ i _ => s.all.length - (intOf i).toNat)
  case atStart => exact ⟨0, Nat.zero_le _, rfl, H0⟩
  case round =>
    obtain ⟨k, hk, rfl, hR⟩ := hrel
    by_cases hlt : k < s.all.length
    · obtain ⟨m, hm⟩ : ∃ m, s.all[k]? = some m := ⟨_, List.getElem?_eq_getElem hlt⟩
      have hP := HP.out.same hR.out.2.1
      obtain ⟨b, o, cap, he, hb, k0, k1, k2, k3⟩ := hP.elem hm
      rw [HAV.out] at he
      cases he
      have HX := Lib.hid hm
      have hi0 : (0 : Int) ≤ (k : Int) := by omega
      have hi1 : (k : Int) < (s.all.length : Int) := by omega
      have hlk : (s.allNames.take k).length = k := by rw [List.length_take, Pa.allNames, List.length_map]; omega
      have hrow := hR.out.1
      unfold Names at hrow
      rw [hlk] at hrow
      have HR0 := Lib.hid hrow
      have HM0 := Lib.hid hR.out.2.1
      have HB0 := Lib.hid hR.out.2.2
      have HL := Lib.hid hlk
      clear hP hb hm hrow hlk hR
      have HSrc : Hid (SrcOk ((wr.alloc (.cells #[.int .i64 (m.frm : Int), .int .u64 (m.num : Int), .int .u64 (m.to : Int), .map (some m.blk)] 73)).alloc (.cells #[.int .i64 (m.frm : Int), .int .u64 (m.num : Int)] 34)) (.slice (some ⟨wr.heap.size + 1, 0, none⟩) 1 1) 1 2 [.int .i64 (m.frm : Int), .int .u64 (m.num : Int)]) := by
        have hb := blk_new (wr.alloc (.cells #[.int .i64 (m.frm : Int), .int .u64 (m.num : Int), .int .u64 (m.to : Int), .map (some m.blk)] 73)) (.cells #[.int .i64 (m.frm : Int), .int .u64 (m.num : Int)] 34)
        rw [show (wr.alloc (.cells #[.int .i64 (m.frm : Int), .int .u64 (m.num : Int), .int .u64 (m.to : Int), .map (some m.blk)] 73)).heap.size = wr.heap.size + 1 by simp] at hb
        exact SrcOk.block hb rfl (fun j u hu => by rw [Nat.zero_add]; simpa using hu) (by simp [Value.oneCell'])
      go_wp2_with (at_builtin; refine wpList_append_row (by rfl) _ _ 28 (by rfl) i0 (.agg #[.int .i64 0, .int .u64 0]) 16 Try.underlying28 hii hz0 hz1 hz2 (by rfl) (by omega) (by rfl) ((HR0.out.alloc _).alloc _) (nameCells_one _) _ 1 [.int .i64 (m.frm : Int), .int .u64 (m.num : Int)] (by rfl) HSrc.out (by unfold maxLen; omega) (by omega) ?_)
      intro v2 w2 hrow hgrow hat
      have HY : Hid (AllRel w s (k + 1) v2 w2) := by
        have et : s.allNames.take (k + 1) = s.allNames.take k ++ [(m.frm, m.num)] := by
          rw [List.take_add_one]
          unfold Pa.allNames
          rw [List.getElem?_map, HX.out]
          rfl
        refine ⟨?_, ((HM0.out.alloc _).alloc _).grown hgrow (fun q hq => HB0.out q hq), fun q hq => ?_⟩
        · unfold Names
          rw [et, List.length_append, HL.out, List.flatMap_append]
          exact hrow
        · rcases hat with e | e
          · exact HB0.out q (e ▸ hq)
          · rw [e] at hq
            cases hq
            have := HM0.out.size
            simp
            omega
      clear hrow hgrow hat
      go_wp2
      go_roundw
      case rel => exact ⟨k + 1, by omega, by go_num, HY⟩
      case measure => simp [intOf]; omega
    · obtain rfl : k = s.all.length := by omega
      have HE : Hid (Names wr u3 s.allNames ∧ Mod (fun _ => False) w wr ∧ ∀ q, u3.ownBlock = some q → w.heap.size ≤ q) := by
        have h := hR.out
        unfold AllRel at h
        rw [List.take_of_length_le (by unfold Pa.allNames; rw [List.length_map]; exact Nat.le_refl _)] at h
        exact h
      go_wp2
      go_ret
      exact ⟨_, rfl, HE.out⟩
end Go.Proofs.Yteicceikaecfcaa
