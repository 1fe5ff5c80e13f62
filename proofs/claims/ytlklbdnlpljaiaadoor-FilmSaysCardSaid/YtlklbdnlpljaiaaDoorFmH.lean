/-
  film.Show: an event's text.
-/
import Derived.Test.YtlklbdnlpljaiaaDoorFmG
namespace Go.Proofs.YtlklbdnlpljaiaaDoor
open Go.RowKit Go.Shoal

theorem words_any (e : Ev) (ok : e.Ok) (w : World) (hT : Tab w) : Calls Tryd.prog 24 #[e.agg] w (Worded w (wordsL e)) := by
  obtain ⟨k, p, f, n, d, v, x, g, r⟩ := e
  have h1 := ok.n
  have h2 := ok.t
  have h3 := ok.f
  have h4 := ok.v
  have h5 := ok.x
  have h6 := ok.g
  have h7 := ok.r
  show Calls Tryd.prog 24 #[.agg (box9 k p f n d v x g r)] w _
  unfold wordsL
  dsimp only at h1 h2 h3 h4 h5 h6 h7 ⊢
  by_cases e1 : k = 1
  · subst e1; rw [if_pos rfl]; exact words_1 p f v r n d x g w h1 h2 hT
  rw [if_neg e1]
  by_cases e2 : k = 2
  · subst e2; rw [if_pos rfl]; exact words_2 p f v r n d x g w h3 h1 hT
  rw [if_neg e2]
  by_cases e3 : k = 3
  · subst e3; rw [if_pos rfl]; exact words_3 p f v r n d x g w h4 h5 h6 hT
  rw [if_neg e3]
  by_cases e4 : k = 4
  · subst e4; rw [if_pos rfl]; exact words_4 p f v r n d x g w h4 hT
  rw [if_neg e4]
  by_cases e5 : k = 5
  · subst e5; rw [if_pos rfl]; exact words_5 p f v r n d x g w h4 h5 h3 h6 hT
  rw [if_neg e5]
  by_cases e6 : k = 6
  · subst e6; rw [if_pos rfl]; exact words_6 p f v r n d x g w h7 hT
  rw [if_neg e6]
  exact (words_no k p f v r n d x g w e1 e2 e3 e4 e5 e6).mono fun _ _ ⟨h, hm⟩ => ⟨_, h, RowOf.nil _ _ _, hm⟩
/-! How long a text is. -/
theorem num_size {n : Nat} (h : n < 18446744073709551616) : (numS n).size ≤ 20 := Dst.dec_size 19 n (by omega)
theorem itoa_size {n : Int} (h : I64 n) : (itoaS n).size ≤ 21 := by
  obtain ⟨h1, h2⟩ := h
  show (Lib.itoa n).length ≤ 21
  unfold Lib.itoa
  split
  · have := num_size (n := n.natAbs) (by omega)
    show (Lib.decDigits n.natAbs).length + 1 ≤ 21
    have h3 : (numS n.natAbs).size = (Lib.decDigits n.natAbs).length := rfl
    omega
  · have := num_size (n := n.toNat) (by omega)
    have h3 : (numS n.toNat).size = (Lib.decDigits n.toNat).length := rfl
    omega
theorem flo_size (x : Nat) : (floS x).size ≤ 16 := by
  show (showW x).length ≤ 16
  unfold showW
  have := hexs_len x
  split
  · decide
  · split
    · decide
    · split
      · decide
      · rw [List.length_append, List.length_replicate]; omega
theorem set_size (s : Nat) : (Dst.showS s).size ≤ 200 := by
  have h1 := Dst.joinL_len (Dst.bitsOf s) (Dst.bits_small s)
  have h2 := Dst.bitsOf_len s
  show (Dst.joinL (Dst.bitsOf s) ++ [125]).length + 1 ≤ _
  rw [List.length_append]
  show (Dst.joinL (Dst.bitsOf s)).length + 1 + 1 ≤ _
  omega
theorem words_size (e : Ev) (ok : e.Ok) : (∀ b ∈ wordsL e, b.size ≤ 200) ∧ (wordsL e).length ≤ 5 := by
  have n1 := num_size ok.n
  have n2 := num_size ok.g
  have i1 := itoa_size ok.f
  have i2 := itoa_size ok.v
  have i3 := itoa_size ok.r
  have f1 := flo_size e.x
  have s1 := set_size e.dst
  have L : ∀ l : List ByteArray, l.all (fun b => decide (b.size ≤ 200)) = true → ∀ b ∈ l, b.size ≤ 200 := fun l h b hb => of_decide_eq_true (List.all_eq_true.1 h b hb)
  have t : ∀ {b : ByteArray}, b.size ≤ 200 → decide (b.size ≤ 200) = true := fun h => decide_eq_true h
  unfold wordsL
  repeat' split
  all_goals refine ⟨L _ ?_, by simp⟩
  all_goals simp only [List.all_cons, List.all_nil, Bool.and_true, t (Nat.le_trans n1 (by decide)), t (Nat.le_trans n2 (by decide)), t (Nat.le_trans i1 (by decide)), t (Nat.le_trans i2 (by decide)), t (Nat.le_trans i3 (by decide)), t (Nat.le_trans f1 (by decide)), t s1]
  all_goals first | rfl | decide
def sepL (l : List ByteArray) : List UInt8 := Lib.join (l.map (·.data.toList)) [32]
theorem sep_len (l : List ByteArray) (h : ∀ b ∈ l, b.size ≤ 200) : (sepL l).length ≤ 201 * l.length := by
  have tail : ∀ r : List ByteArray, (∀ b ∈ r, b.size ≤ 200) → (Lib.joinTail [32] (r.map (·.data.toList))).length ≤ 201 * r.length := by
    intro r
    induction r with
    | nil => intro _; exact Nat.zero_le _
    | cons b r ih =>
      intro hr
      have := ih (fun y hy => hr y (List.mem_cons_of_mem _ hy))
      have hb := hr b (List.mem_cons_self ..)
      have hb' : b.data.toList.length ≤ 200 := by rw [Array.length_toList]; exact hb
      unfold Lib.joinTail at this ⊢
      rw [List.map_cons, List.map_cons, List.flatten_cons, List.length_append, List.length_append, List.length_cons]
      simp only [List.length_cons, List.length_nil]
      omega
  unfold sepL
  cases l with
  | nil => exact Nat.zero_le _
  | cons b r =>
    have := tail r (fun y hy => h y (List.mem_cons_of_mem _ hy))
    have hb := h b (List.mem_cons_self ..)
    have hb' : b.data.toList.length ≤ 200 := by rw [Array.length_toList]; exact hb
    rw [List.map_cons, Lib.join_cons, List.length_append, List.length_cons]
    omega
/-- An event's text. -/
def showE (e : Ev) : ByteArray := if wordsL e = [] then ByteArray.empty else itoaS e.p ++ ⟨#[32]⟩ ++ ⟨(sepL (wordsL e)).toArray⟩
theorem nine (e : Ev) : e.agg = .agg (box9 e.kind e.p e.frm e.num e.dst e.var e.x e.tag e.err) := rfl
set_option maxRecDepth 100000 in
set_option maxHeartbeats 4000000 in
theorem shown_any (e : Ev) (ok : e.Ok) (w : World) (hT : Tab w) : Calls Tryd.prog 13 #[e.agg] w fun q w' => q = .returned (.string (showE e)) ∧ Mod (fun _ => False) w w' := by
  have HWO := Lib.hid (words_any e ok (w.alloc (.cells (box9 e.kind e.p e.frm e.num e.dst e.var e.x e.tag e.err) 31)) (hT.mod ((Mod.refl _ _).alloc _) (fun h => h)))
  obtain ⟨hws, hwl⟩ := words_size e ok
  have hsl := sep_len (wordsL e) hws
  have hps := itoa_size ok.p
  have HIT : Hid (∀ W, Mod (fun _ => False) w W → Calls Tryd.prog 25 #[.int .i64 e.p] W fun q w' => q = .returned (.string (itoaS e.p)) ∧ Mod (fun _ => False) W w') := fun W hW => itoa_any e.p ok.p.1 ok.p.2 W (hT.mod hW (fun h => h))
  have HSE : Hid (showE e = if wordsL e = [] then ByteArray.empty else itoaS e.p ++ ⟨#[32]⟩ ++ ⟨(sepL (wordsL e)).toArray⟩) := rfl
  rw [nine] at HWO ⊢
  generalize hL : wordsL e = L at *
  generalize hX : showE e = X at *
  clear hL hX ok hT hws
  obtain ⟨k, p, f, n, d, v, x, g, r⟩ := e
  dsimp only at *
  have hM0 : Mod (fun _ => False) w (w.alloc (.cells (box9 k p f n d v x g r) 31)) := (Mod.refl _ _).alloc _
  have HB := Lib.hid (blk_new w (.cells (box9 k p f n d v x g r) 31))
  have HM0 := Lib.hid hM0
  clear hM0
  go_enter Tryd.func13, Tryd.ntmps13
  go_wp2_with fail
  refine HWO.out.mono ?_
  rintro q w1 ⟨vw, rfl, hv, hm⟩
  obtain ⟨A, c, rfl⟩ := RowOf.form hv
  have HM1 : Hid (Mod (fun _ => False) w w1) := HM0.out.trans hm
  have hb1 := hm.blk HB.out (fun h => h)
  have k1 : w1.cell? ⟨w.heap.size, 1, none⟩ = some (.int .i64 p) := (blk_cell hb1 1).trans rfl
  by_cases hz : L = []
  · subst hz
    have HE := HSE.out
    rw [if_pos rfl] at HE
    subst HE
    clear hb1 hv hm HWO
    go_wp2
    go_ret
    exact ⟨rfl, HM1.out⟩
  · have HE := HSE.out
    rw [if_neg hz] at HE
    have hn0 : L.length ≠ 0 := fun h => hz (List.eq_nil_of_length_eq_zero h)
    have t0 : ((L.length : Int) == 0) = false := beq_eq_false_iff_ne.2 (by omega)
    have HV := Lib.hid hv
    have HIT1 := Lib.hid (HIT.out w1 HM1.out)
    have hz1 : (itoaS p).size + (⟨#[32]⟩ : ByteArray).size ≤ 9223372036854775807 := by show (itoaS p).size + 1 ≤ _; omega
    have hz2 : (itoaS p ++ ⟨#[32]⟩).size + (⟨(sepL L).toArray⟩ : ByteArray).size ≤ 9223372036854775807 := by
      rw [ByteArray.size_append]
      show (itoaS p).size + 1 + (sepL L).length ≤ _
      omega
    have HLEN : Hid ((sepL L).length ≤ 140737488355328 ∧ L.length ≤ 140737488355328) := ⟨by omega, by omega⟩
    clear hb1 hv hm HWO HSE hsl hwl hps
    subst HE
    go_wp2_with fail
    refine HIT1.out.mono ?_
    rintro q w2 ⟨rfl, hm⟩
    have HM2 : Hid (Mod (fun _ => False) w w2) := HM1.out.trans hm
    have HJ : Hid (Calls Tryd.prog 26 #[.slice A L.length c, .string ⟨#[32]⟩] w2 fun q w' => q = .returned (.string ⟨(sepL L).toArray⟩) ∧ Below w2.heap.size w2 w') := by
      have hv2 : Dst.StrsAt w2 (.slice A L.length c) L := RowOf.mod HV.out hm (fun _ _ x => x)
      obtain ⟨b9, o9, cap9, cur9, e9, hcur, hcap, hcells⟩ := RowOf.at hv2 (by omega)
      cases e9
      exact Tryd.strings_Join b9 o9 c L ⟨#[32]⟩ w2 (fun j y hy => by
        rw [blk_cell hcur, hcells j (by have := (List.getElem?_eq_some_iff.1 hy).1; omega)]
        unfold Dst.strV
        rw [List.getElem?_map, hy]
        rfl) (blk_lt hcur) HLEN.out.2 hcap HLEN.out.1
    clear hm HIT1 HM1
    go_wp2_with fail
    refine HJ.out.mono ?_
    rintro q w3 ⟨rfl, hb⟩
    have HM3 : Hid (Mod (fun _ => False) w w3) := HM2.out.trans (Mod.of_below hb)
    clear hb
    go_wp2
    go_ret
    exact ⟨rfl, HM3.out⟩
end Go.Proofs.YtlklbdnlpljaiaaDoor
