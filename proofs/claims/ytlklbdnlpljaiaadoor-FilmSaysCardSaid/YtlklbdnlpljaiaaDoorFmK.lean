/-
  Delivered.
-/
import Derived.Test.YtlklbdnlpljaiaaDoorFmJ
namespace Go.Proofs.YtlklbdnlpljaiaaDoor
open Go.RowKit Go.Shoal

theorem Tryd.infoPair : (Tryd.prog.info? 46).map (fun i => (i.zero, i.size, i.bytes)) = some (some (.agg #[.int .u64 0, .int .u64 0]), 2, 16) := by kernel_rfl
def pairC (x : Nat × Nat) : List Value := [.int .u64 (x.1 : Int), .int .u64 (x.2 : Int)]
def pairFlat (l : List (Nat × Nat)) : List Value := l.flatMap pairC
theorem pair_one (l : List (Nat × Nat)) : ∀ u ∈ pairFlat l, u.oneCell' = true := by
  intro u hu
  obtain ⟨m, _, hm⟩ := List.mem_flatMap.1 hu
  unfold pairC at hm
  simp only [List.mem_cons, List.not_mem_nil, or_false] at hm
  rcases hm with rfl | rfl <;> rfl
theorem pair_snoc (l : List (Nat × Nat)) (x : Nat × Nat) : pairFlat (l ++ [x]) = pairFlat l ++ pairC x := by simp [pairFlat, List.flatMap_append]
/-- A slice of pairs. -/
def DRow (w : World) (v : Value) (l : List (Nat × Nat)) : Prop := RowOf w 46 2 v l.length (pairFlat l)
theorem DRow.two {w : World} {A : Option Addr} {c : Nat} {l : List (Nat × Nat)} {k : Nat} {x : Nat × Nat} (h : DRow w (.slice A l.length c) l) (he : l[k]? = some x) :
    ∃ b o, A = some ⟨b, o, none⟩ ∧ w.cell? ⟨b, o + k * 2, none⟩ = some (.int .u64 (x.1 : Int)) ∧ w.cell? ⟨b, o + k * 2 + 1, none⟩ = some (.int .u64 (x.2 : Int)) := by
  have hk := (List.getElem?_eq_some_iff.1 he).1
  obtain ⟨b, o, cap, cur, he', hcur, _, hcells⟩ := RowOf.at h (by omega)
  cases he'
  have hj : ∀ j, j < 2 → w.cell? ⟨b, o + k * 2 + j, none⟩ = (pairC x)[j]? := fun j hj => by
    rw [Nat.add_assoc, blk_cell hcur, hcells (k * 2 + j) (by omega)]
    exact flat_at (f := pairC) (C := 2) (fun _ => rfl) l k j x he hj
  exact ⟨b, o, rfl, hj 0 (by decide), hj 1 (by decide)⟩
def DGave (w : World) (l : List (Nat × Nat)) (e : Ending) (w' : World) : Prop := ∃ v, e = .returned v ∧ DRow w' v l ∧ Mod (fun _ => False) w w' ∧ ∀ q, v.ownBlock = some q → w.heap.size ≤ q
def DRel (w : World) (l : List (Nat × Nat)) (v : Value) (wr : World) : Prop := DRow wr v l ∧ Mod (fun _ => False) w wr ∧ ∀ q, v.ownBlock = some q → w.heap.size ≤ q
theorem DRel.put {w wr w1 w' : World} {l : List (Nat × Nat)} {v v' : Value} {x : Nat × Nat} (h : DRel w l v wr) (hm : Mod (fun _ => False) wr w1) (hr : RowOf w' 46 2 v' (l.length + 1) (pairFlat l ++ pairC x)) (hg : w1.grownBy w' v.ownBlock)
    (ho : v'.ownBlock = v.ownBlock ∨ v'.ownBlock = some w1.heap.size) : DRel w (l ++ [x]) v' w' := by
  refine ⟨?_, (h.2.1.trans hm).grown hg (fun k hk => h.2.2 k hk), fun q hq => ?_⟩
  · unfold DRow
    rw [pair_snoc, List.length_append]
    exact hr
  · have h1 := h.2.1.size
    have h2 := hm.size
    rcases ho with ho | ho
    · exact h.2.2 q (ho ▸ hq)
    · rw [ho] at hq
      have := Option.some.inj hq
      omega
def gotE (e : Ev) : Nat × Nat := ((max e.frm 0).toNat, e.num)
/-- What was delivered. -/
def gotL (l : List Ev) : List (Nat × Nat) := (l.filter fun e => e.kind == 2).map gotE
theorem gotL_snoc (l : List Ev) (e : Ev) : gotL (l ++ [e]) = if e.kind = 2 then gotL l ++ [gotE e] else gotL l := by
  unfold gotL
  rw [List.filter_append]
  by_cases h : e.kind = 2
  · rw [if_pos h]; simp [h]
  · rw [if_neg h]; simp [h]
theorem gotL_len (l : List Ev) : (gotL l).length ≤ l.length := by
  unfold gotL
  rw [List.length_map]
  exact List.length_filter_le _ _
set_option maxRecDepth 100000 in
set_option maxHeartbeats 8000000 in
theorem delivered_any (base B : Nat) (l : List Ev) (av : Value) (pp : Int) (w : World) (h : FilmAt w base B l av) (hl : l.length ≤ 1000) (hok : ∀ e ∈ l, e.Ok) :
    Calls Tryd.prog 12 #[.pointer (some ⟨B, 0, none⟩), .int .i64 pp] w (DGave w (gotL (atL l pp))) := by
  obtain ⟨i0, hii, hz0, hz1, hz2⟩ := info_parts Tryd.infoPair
  have HA := Lib.hid (at_any base B l av pp w h hl)
  have hl' : (atL l pp).length ≤ 1000 := Nat.le_trans (atL_len l pp) hl
  have HOK : Hid (∀ e ∈ atL l pp, e.Ok) := fun e he => hok e ((List.mem_filter.1 he).1)
  generalize atL l pp = L at *
  have HL := Lib.hid hl'
  clear h hl hok hl'
  go_enter Tryd.func12, Tryd.ntmps12
  go_wp2_with fail
  refine HA.out.mono ?_
  rintro q w1 ⟨v1, rfl, hrow, hm, hown⟩
  obtain ⟨A, c, rfl⟩ := RowOf.form hrow
  have HRW := Lib.hid hrow
  have HM := Lib.hid hm
  have HR0 : Hid (DRel w1 (gotL (L.take 0)) (.slice none 0 0) w1) := ⟨RowOf.nil _ _ _, Mod.refl _ _, fun q hq => by cases hq⟩
  clear hrow hm hown HA
  go_wp2
  go_loopw [5, 12] (fun acc i wr => ∃ (k : Nat) (v : Value), k ≤ L.length ∧ i = .int .i64 k ∧ v = acc ∧ Hid (DRel w1 (gotL (L.take k)) v wr)) (fun _ i _ => L.length - (intOf i).toNat)
  case atStart => exact ⟨0, _, Nat.zero_le _, rfl, rfl, HR0⟩
  case round =>
    obtain ⟨k, v, hk, rfl, rfl, hR⟩ := hrel
    by_cases hlt : k < L.length
    · obtain ⟨e, he⟩ : ∃ e, L[k]? = some e := ⟨_, List.getElem?_eq_getElem hlt⟩
      have hrw : EvRow wr (.slice A L.length c) L := RowOf.mod HRW.out hR.out.2.1 (fun _ _ x => x)
      obtain ⟨b, o, rfl, k0, k1, k2, k3, k4, k5, k6, k7, k8⟩ := hrw.nine he
      have hi : (k : Int) < L.length := by omega
      have hi0 : (0 : Int) ≤ (k : Int) := by omega
      have tk : decide (k < L.length) = true := decide_eq_true hlt
      have hkb : (k : Int) < 1000 := by have := HL.out; omega
      have heok := HOK.out e (List.mem_of_getElem? he)
      have hf1 := heok.f.1
      have hf2 := heok.f.2
      have HT : Hid (gotL (L.take (k + 1)) = if e.kind = 2 then gotL (L.take k) ++ [gotE e] else gotL (L.take k)) := by
        show _ = _
        rw [take_snocE he, gotL_snoc]
      have HD : Hid ((gotL (L.take k)).length ≤ 1000) := by
        have h1 := gotL_len (L.take k)
        have h2 := HL.out
        rw [List.length_take] at h1
        show _ ≤ _
        omega
      generalize gotL (L.take k) = done at *
      clear hrw he heok
      unfold gotE at HT
      obtain ⟨kd, p, f, n, d, vr, x, g, r⟩ := e
      dsimp only at k0 k1 k2 k3 k4 k5 k6 k7 k8 HT hf1 hf2
      have hmx : IntKind.u64.wrap (max f 0) = (((max f 0).toNat : Nat) : Int) := by rw [IntKind.wrap_u64]; omega
      have hblk : (wr.alloc (.cells #[.int .i64 kd, .int .i64 p, .int .i64 f, .int .u64 n, .int .u64 d, .int .i64 vr, .float .f64 x, .int .u64 g, .int .i64 r] 31)).heap[wr.heap.size]? = some (.cells #[.int .i64 kd, .int .i64 p, .int .i64 f, .int .u64 n, .int .u64 d, .int .i64 vr, .float .f64 x, .int .u64 g, .int .i64 r] 31 (0, 0)) := blk_new _ _
      have m0 := (blk_cell hblk 0).trans rfl
      have m2 := (blk_cell hblk 2).trans rfl
      have m3 := (blk_cell hblk 3).trans rfl
      clear hblk
      by_cases hp : kd = 2
      · have HE := HT.out
        rw [if_pos hp] at HE
        have tp : (kd == 2) = true := beq_iff_eq.2 hp
        generalize (max f 0).toNat = mx at *
        have HRW2 : Hid (RowOf ((wr.alloc (.cells #[.int .i64 kd, .int .i64 p, .int .i64 f, .int .u64 n, .int .u64 d, .int .i64 vr, .float .f64 x, .int .u64 g, .int .i64 r] 31)).alloc (.cells #[.int .u64 mx, .int .u64 n] 46)) 46 2 v done.length (pairFlat done)) := RowOf.alloc (RowOf.alloc hR.out.1 _) _
        have HM2 : Hid (Mod (fun _ => False) wr ((wr.alloc (.cells #[.int .i64 kd, .int .i64 p, .int .i64 f, .int .u64 n, .int .u64 d, .int .i64 vr, .float .f64 x, .int .u64 g, .int .i64 r] 31)).alloc (.cells #[.int .u64 mx, .int .u64 n] 46))) := ((Mod.refl _ _).alloc _).alloc _
        have HSR : Hid (SrcOk ((wr.alloc (.cells #[.int .i64 kd, .int .i64 p, .int .i64 f, .int .u64 n, .int .u64 d, .int .i64 vr, .float .f64 x, .int .u64 g, .int .i64 r] 31)).alloc (.cells #[.int .u64 mx, .int .u64 n] 46)) (.slice (some ⟨wr.heap.size + 1, 0, none⟩) 1 1) 1 2 [.int .u64 mx, .int .u64 n]) := by
          have h : SrcOk ((wr.alloc (.cells #[.int .i64 kd, .int .i64 p, .int .i64 f, .int .u64 n, .int .u64 d, .int .i64 vr, .float .f64 x, .int .u64 g, .int .i64 r] 31)).alloc (.cells #[.int .u64 mx, .int .u64 n] 46)) (.slice (some ⟨(wr.alloc (.cells #[.int .i64 kd, .int .i64 p, .int .i64 f, .int .u64 n, .int .u64 d, .int .i64 vr, .float .f64 x, .int .u64 g, .int .i64 r] 31)).heap.size, 0, none⟩) 1 1) 1 2 [.int .u64 mx, .int .u64 n] := SrcOk.block (blk_new _ _) rfl (fun j u hu => by rw [Nat.zero_add]; simpa using hu) (by simp [Value.oneCell'])
          rw [show (wr.alloc (.cells #[.int .i64 kd, .int .i64 p, .int .i64 f, .int .u64 n, .int .u64 d, .int .i64 vr, .float .f64 x, .int .u64 g, .int .i64 r] 31)).heap.size = wr.heap.size + 1 by simp] at h
          exact h
        have HE := Lib.hid HE
        clear HT hp
        go_wp2_with (at_builtin; refine wpList_append_row (by rfl) _ _ 35 (by rfl) i0 (.agg #[.int .u64 0, .int .u64 0]) 16 Tryd.underlying35 hii hz0 hz1 hz2 (by rfl) (by omega) (by rfl) HRW2.out (pair_one _) _ 1 [.int .u64 mx, .int .u64 n] (by rfl) HSR.out (by have := HD.out; unfold maxLen; omega) (by have := HD.out; omega) ?_)
        intro v' w' hv1 hv2 hv3
        have HEN : Hid (DRel w1 (gotL (L.take (k + 1))) v' w') := by
          show DRel _ _ _ _
          rw [HE.out]
          exact hR.out.put HM2.out hv1 hv2 (by simpa using hv3)
        clear hv1 hv2 hv3 HRW2 HM2 HSR hR
        go_wp2
        go_roundw
        case rel => exact ⟨k + 1, v', by omega, by go_num, rfl, HEN⟩
        case measure => simp [intOf]; omega
      · have HE := HT.out
        rw [if_neg hp] at HE
        have tp : (kd == 2) = false := beq_eq_false_iff_ne.2 hp
        have HEN : Hid (DRel w1 (gotL (L.take (k + 1))) v (wr.alloc (.cells #[.int .i64 kd, .int .i64 p, .int .i64 f, .int .u64 n, .int .u64 d, .int .i64 vr, .float .f64 x, .int .u64 g, .int .i64 r] 31))) := by
          show DRel _ _ _ _
          rw [HE]
          exact ⟨RowOf.alloc hR.out.1 _, hR.out.2.1.alloc _, hR.out.2.2⟩
        clear HT hp HE hR
        go_wp2
        go_roundw
        case rel => exact ⟨k + 1, v, by omega, by go_num, rfl, HEN⟩
        case measure => simp [intOf]; omega
    · obtain rfl : k = L.length := by omega
      have ti : decide (L.length < L.length) = false := decide_eq_false (by omega)
      rw [List.take_length] at hR
      have HE : Hid (DGave w (gotL L) (.returned v) wr) := ⟨v, rfl, hR.out.1, HM.out.trans hR.out.2.1, fun q hq => Nat.le_trans HM.out.size (hR.out.2.2 q hq)⟩
      clear hR
      go_wp2
      go_ret
      exact HE.out
end Go.Proofs.YtlklbdnlpljaiaaDoor
