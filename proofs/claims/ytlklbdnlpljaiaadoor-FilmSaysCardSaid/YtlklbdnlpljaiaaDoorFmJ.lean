/-
  All, At, Count, Delivered.
-/
import Derived.Test.YtlklbdnlpljaiaaDoorFmI
namespace Go.Proofs.YtlklbdnlpljaiaaDoor
open Go.RowKit Go.Shoal

theorem EvRow.nine {w : World} {A : Option Addr} {c : Nat} {l : List Ev} {k : Nat} {e : Ev} (h : EvRow w (.slice A l.length c) l) (he : l[k]? = some e) :
    ∃ b o, A = some ⟨b, o, none⟩ ∧ w.cell? ⟨b, o + k * 9, none⟩ = some (.int .i64 e.kind) ∧ w.cell? ⟨b, o + k * 9 + 1, none⟩ = some (.int .i64 e.p) ∧ w.cell? ⟨b, o + k * 9 + 2, none⟩ = some (.int .i64 e.frm) ∧ w.cell? ⟨b, o + k * 9 + 3, none⟩ = some (.int .u64 e.num) ∧ w.cell? ⟨b, o + k * 9 + 4, none⟩ = some (.int .u64 e.dst) ∧ w.cell? ⟨b, o + k * 9 + 5, none⟩ = some (.int .i64 e.var) ∧ w.cell? ⟨b, o + k * 9 + 6, none⟩ = some (.float .f64 e.x) ∧ w.cell? ⟨b, o + k * 9 + 7, none⟩ = some (.int .u64 e.tag) ∧ w.cell? ⟨b, o + k * 9 + 8, none⟩ = some (.int .i64 e.err) := by
  have hk := (List.getElem?_eq_some_iff.1 he).1
  obtain ⟨b, o, cap, cur, he', hcur, _, hcells⟩ := RowOf.at h (by omega)
  cases he'
  have hj : ∀ j, j < 9 → w.cell? ⟨b, o + (k * 9 + j), none⟩ = e.cells[j]? := fun j hj => by
    rw [blk_cell hcur, hcells (k * 9 + j) (by omega)]
    exact flat_at (f := Ev.cells) (C := 9) (fun _ => rfl) l k j e he hj
  have hj' : ∀ j, j < 9 → w.cell? ⟨b, o + k * 9 + j, none⟩ = e.cells[j]? := fun j h9 => by rw [Nat.add_assoc]; exact hj j h9
  exact ⟨b, o, rfl, hj' 0 (by decide), hj' 1 (by decide), hj' 2 (by decide), hj' 3 (by decide), hj' 4 (by decide), hj' 5 (by decide), hj' 6 (by decide), hj' 7 (by decide), hj' 8 (by decide)⟩
/-- Rows of events made behind w. -/
def EGave (w : World) (l : List Ev) (e : Ending) (w' : World) : Prop := ∃ v, e = .returned v ∧ EvRow w' v l ∧ Mod (fun _ => False) w w' ∧ ∀ q, v.ownBlock = some q → w.heap.size ≤ q
def ERel (w : World) (l : List Ev) (v : Value) (wr : World) : Prop := EvRow wr v l ∧ Mod (fun _ => False) w wr ∧ ∀ q, v.ownBlock = some q → w.heap.size ≤ q
theorem ERel.put {w wr w1 w' : World} {l : List Ev} {v v' : Value} {x : Ev} (h : ERel w l v wr) (hm : Mod (fun _ => False) wr w1) (hr : RowOf w' 31 9 v' (l.length + 1) (evFlat l ++ x.cells)) (hg : w1.grownBy w' v.ownBlock)
    (ho : v'.ownBlock = v.ownBlock ∨ v'.ownBlock = some w1.heap.size) : ERel w (l ++ [x]) v' w' := by
  refine ⟨?_, (h.2.1.trans hm).grown hg (fun k hk => h.2.2 k hk), fun q hq => ?_⟩
  · unfold EvRow
    rw [ev_snoc, List.length_append]
    exact hr
  · have h1 := h.2.1.size
    have h2 := hm.size
    rcases ho with ho | ho
    · exact h.2.2 q (ho ▸ hq)
    · rw [ho] at hq
      have := Option.some.inj hq
      omega
def atL (l : List Ev) (p : Int) : List Ev := l.filter fun e => e.p == p
theorem take_snocE {l : List Ev} {k : Nat} {e : Ev} (h : l[k]? = some e) : l.take (k + 1) = l.take k ++ [e] := by
  have hk := (List.getElem?_eq_some_iff.1 h).1
  rw [List.take_succ_eq_append_getElem hk]
  rw [List.getElem?_eq_getElem hk] at h
  rw [Option.some.inj h]
theorem atL_snoc (l : List Ev) (p : Int) (e : Ev) : atL (l ++ [e]) p = if e.p = p then atL l p ++ [e] else atL l p := by
  unfold atL
  rw [List.filter_append]
  by_cases h : e.p = p
  · rw [if_pos h]; simp [h]
  · rw [if_neg h]; simp [h]
theorem atL_len (l : List Ev) (p : Int) : (atL l p).length ≤ l.length := List.length_filter_le _ _
set_option maxRecDepth 100000 in
set_option maxHeartbeats 8000000 in
theorem at_any (base B : Nat) (l : List Ev) (av : Value) (pp : Int) (w : World) (h : FilmAt w base B l av) (hl : l.length ≤ 1000) :
    Calls Tryd.prog 10 #[.pointer (some ⟨B, 0, none⟩), .int .i64 pp] w (EGave w (atL l pp)) := by
  obtain ⟨i0, hii, hz0, hz1, hz2⟩ := info_parts Tryd.infoEv
  obtain ⟨htop, hrow, _, _⟩ := h
  obtain ⟨A, c, rfl⟩ := RowOf.form hrow
  have b0 := (blk_cell htop 0).trans rfl
  have HRW := Lib.hid hrow
  have HL := Lib.hid hl
  have HR0 : Hid (ERel w (atL (l.take 0) pp) (.slice none 0 0) w) := ⟨RowOf.nil _ _ _, Mod.refl _ _, fun q hq => by cases hq⟩
  clear htop hrow hl
  go_enter Tryd.func10, Tryd.ntmps10
  go_wp2
  clear b0
  go_loopw [5, 13] (fun acc i wr => ∃ (k : Nat) (v : Value), k ≤ l.length ∧ i = .int .i64 k ∧ v = acc ∧ Hid (ERel w (atL (l.take k) pp) v wr)) (fun _ i _ => l.length - (intOf i).toNat)
  case atStart => exact ⟨0, _, Nat.zero_le _, rfl, rfl, HR0⟩
  case round =>
    obtain ⟨k, v, hk, rfl, rfl, hR⟩ := hrel
    by_cases hlt : k < l.length
    · obtain ⟨e, he⟩ : ∃ e, l[k]? = some e := ⟨_, List.getElem?_eq_getElem hlt⟩
      have hrw : EvRow wr (.slice A l.length c) l := RowOf.mod HRW.out hR.out.2.1 (fun _ _ x => x)
      obtain ⟨b, o, rfl, k0, k1, k2, k3, k4, k5, k6, k7, k8⟩ := hrw.nine he
      have hi : (k : Int) < l.length := by omega
      have hi0 : (0 : Int) ≤ (k : Int) := by omega
      have tk : decide (k < l.length) = true := decide_eq_true hlt
      have hkb : (k : Int) < 1000 := by have := HL.out; omega
      have HT : Hid (atL (l.take (k + 1)) pp = if e.p = pp then atL (l.take k) pp ++ [e] else atL (l.take k) pp) := by
        show _ = _
        rw [take_snocE he, atL_snoc]
      have HD : Hid ((atL (l.take k) pp).length ≤ 1000) := by
        have h1 := atL_len (l.take k) pp
        have h2 := HL.out
        rw [List.length_take] at h1
        show _ ≤ _
        omega
      generalize atL (l.take k) pp = done at *
      clear hrw he
      obtain ⟨kd, p, f, n, d, vr, x, g, r⟩ := e
      dsimp only at k0 k1 k2 k3 k4 k5 k6 k7 k8 HT
      have hblk : (wr.alloc (.cells #[.int .i64 kd, .int .i64 p, .int .i64 f, .int .u64 n, .int .u64 d, .int .i64 vr, .float .f64 x, .int .u64 g, .int .i64 r] 31)).heap[wr.heap.size]? = some (.cells #[.int .i64 kd, .int .i64 p, .int .i64 f, .int .u64 n, .int .u64 d, .int .i64 vr, .float .f64 x, .int .u64 g, .int .i64 r] 31 (0, 0)) := blk_new _ _
      by_cases hp : p = pp
      · have HE := HT.out
        rw [if_pos hp] at HE
        have tp : (p == pp) = true := beq_iff_eq.2 hp
        have HRW2 : Hid (RowOf ((wr.alloc (.cells #[.int .i64 kd, .int .i64 p, .int .i64 f, .int .u64 n, .int .u64 d, .int .i64 vr, .float .f64 x, .int .u64 g, .int .i64 r] 31)).alloc (.cells #[.int .i64 kd, .int .i64 p, .int .i64 f, .int .u64 n, .int .u64 d, .int .i64 vr, .float .f64 x, .int .u64 g, .int .i64 r] 31)) 31 9 v done.length (evFlat done)) := RowOf.alloc (RowOf.alloc hR.out.1 _) _
        have HM2 : Hid (Mod (fun _ => False) wr ((wr.alloc (.cells #[.int .i64 kd, .int .i64 p, .int .i64 f, .int .u64 n, .int .u64 d, .int .i64 vr, .float .f64 x, .int .u64 g, .int .i64 r] 31)).alloc (.cells #[.int .i64 kd, .int .i64 p, .int .i64 f, .int .u64 n, .int .u64 d, .int .i64 vr, .float .f64 x, .int .u64 g, .int .i64 r] 31))) := ((Mod.refl _ _).alloc _).alloc _
        have HSR : Hid (SrcOk ((wr.alloc (.cells #[.int .i64 kd, .int .i64 p, .int .i64 f, .int .u64 n, .int .u64 d, .int .i64 vr, .float .f64 x, .int .u64 g, .int .i64 r] 31)).alloc (.cells #[.int .i64 kd, .int .i64 p, .int .i64 f, .int .u64 n, .int .u64 d, .int .i64 vr, .float .f64 x, .int .u64 g, .int .i64 r] 31)) (.slice (some ⟨wr.heap.size + 1, 0, none⟩) 1 1) 1 9 [.int .i64 kd, .int .i64 p, .int .i64 f, .int .u64 n, .int .u64 d, .int .i64 vr, .float .f64 x, .int .u64 g, .int .i64 r]) := by
          have h := src_nine (wr.alloc (.cells #[.int .i64 kd, .int .i64 p, .int .i64 f, .int .u64 n, .int .u64 d, .int .i64 vr, .float .f64 x, .int .u64 g, .int .i64 r] 31)) [.int .i64 kd, .int .i64 p, .int .i64 f, .int .u64 n, .int .u64 d, .int .i64 vr, .float .f64 x, .int .u64 g, .int .i64 r] (t := 31) (by simp [Value.oneCell'])
          rw [show (wr.alloc (.cells #[.int .i64 kd, .int .i64 p, .int .i64 f, .int .u64 n, .int .u64 d, .int .i64 vr, .float .f64 x, .int .u64 g, .int .i64 r] 31)).heap.size = wr.heap.size + 1 by simp] at h
          exact h
        have HE := Lib.hid HE
        clear HT hp
        have m0 := (blk_cell hblk 0).trans rfl
        have m1 := (blk_cell hblk 1).trans rfl
        have m2 := (blk_cell hblk 2).trans rfl
        have m3 := (blk_cell hblk 3).trans rfl
        have m4 := (blk_cell hblk 4).trans rfl
        have m5 := (blk_cell hblk 5).trans rfl
        have m6 := (blk_cell hblk 6).trans rfl
        have m7 := (blk_cell hblk 7).trans rfl
        have m8 := (blk_cell hblk 8).trans rfl
        clear hblk
        go_wp2_with (at_builtin; refine wpList_append_row (by rfl) _ _ 22 (by rfl) i0 (.agg #[.int .i64 0, .int .i64 0, .int .i64 0, .int .u64 0, .int .u64 0, .int .i64 0, .float .f64 0, .int .u64 0, .int .i64 0]) 72 Tryd.underlying22 hii hz0 hz1 hz2 (by rfl) (by omega) (by rfl) HRW2.out (ev_one _) _ 1 [.int .i64 kd, .int .i64 p, .int .i64 f, .int .u64 n, .int .u64 d, .int .i64 vr, .float .f64 x, .int .u64 g, .int .i64 r] (by rfl) HSR.out (by have := HD.out; unfold maxLen; omega) (by have := HD.out; omega) ?_)
        intro v' w' hv1 hv2 hv3
        have HEN : Hid (ERel w (atL (l.take (k + 1)) pp) v' w') := by
          show ERel _ _ _ _
          rw [HE.out]
          exact hR.out.put HM2.out hv1 hv2 (by simpa using hv3)
        clear hv1 hv2 hv3 HRW2 HM2 HSR hR m0 m1 m2 m3 m4 m5 m6 m7 m8
        go_wp2
        go_roundw
        case rel => exact ⟨k + 1, v', by omega, by go_num, rfl, HEN⟩
        case measure => simp [intOf]; omega
      · have HE := HT.out
        rw [if_neg hp] at HE
        have tp : (p == pp) = false := beq_eq_false_iff_ne.2 hp
        have HEN : Hid (ERel w (atL (l.take (k + 1)) pp) v (wr.alloc (.cells #[.int .i64 kd, .int .i64 p, .int .i64 f, .int .u64 n, .int .u64 d, .int .i64 vr, .float .f64 x, .int .u64 g, .int .i64 r] 31))) := by
          show ERel _ _ _ _
          rw [HE]
          exact ⟨RowOf.alloc hR.out.1 _, hR.out.2.1.alloc _, hR.out.2.2⟩
        have m1 := (blk_cell hblk 1).trans rfl
        clear HT hp HE hR hblk
        go_wp2
        go_roundw
        case rel => exact ⟨k + 1, v, by omega, by go_num, rfl, HEN⟩
        case measure => simp [intOf]; omega
    · obtain rfl : k = l.length := by omega
      have ti : decide (l.length < l.length) = false := decide_eq_false (by omega)
      rw [List.take_length] at hR
      have HE : Hid (EGave w (atL l pp) (.returned v) wr) := ⟨v, rfl, hR.out⟩
      clear hR
      go_wp2
      go_ret
      exact HE.out
def cntL (l : List Ev) (kd : Int) : Nat := (l.filter fun e => e.kind == kd).length
theorem cntL_snoc (l : List Ev) (kd : Int) (e : Ev) : cntL (l ++ [e]) kd = if e.kind = kd then cntL l kd + 1 else cntL l kd := by
  unfold cntL
  rw [List.filter_append, List.length_append]
  by_cases h : e.kind = kd
  · rw [if_pos h]; simp [h]
  · rw [if_neg h]; simp [h]
theorem cntL_len (l : List Ev) (kd : Int) : cntL l kd ≤ l.length := List.length_filter_le _ _
set_option maxRecDepth 100000 in
set_option maxHeartbeats 8000000 in
theorem count_any (base B : Nat) (l : List Ev) (av : Value) (kk : Int) (w : World) (h : FilmAt w base B l av) (hl : l.length ≤ 1000) :
    Calls Tryd.prog 11 #[.pointer (some ⟨B, 0, none⟩), .int .i64 kk] w fun q w' => q = .returned (.int .i64 (cntL l kk : Nat)) ∧ Mod (fun _ => False) w w' := by
  obtain ⟨htop, hrow, _, _⟩ := h
  obtain ⟨A, c, rfl⟩ := RowOf.form hrow
  have b0 := (blk_cell htop 0).trans rfl
  have HRW := Lib.hid hrow
  have HL := Lib.hid hl
  clear htop hrow hl
  go_enter Tryd.func11, Tryd.ntmps11
  go_wp2
  clear b0
  go_loopw [5, 13] (fun acc i wr => ∃ (k m : Nat), k ≤ l.length ∧ i = .int .i64 k ∧ acc = .int .i64 m ∧ Hid (m = cntL (l.take k) kk ∧ Mod (fun _ => False) w wr)) (fun _ i _ => l.length - (intOf i).toNat)
  case atStart => exact ⟨0, 0, Nat.zero_le _, rfl, rfl, ⟨rfl, Mod.refl _ _⟩⟩
  case round =>
    obtain ⟨k, m, hk, rfl, rfl, hR⟩ := hrel
    by_cases hlt : k < l.length
    · obtain ⟨e, he⟩ : ∃ e, l[k]? = some e := ⟨_, List.getElem?_eq_getElem hlt⟩
      have hrw : EvRow wr (.slice A l.length c) l := RowOf.mod HRW.out hR.out.2 (fun _ _ x => x)
      obtain ⟨b, o, rfl, k0, k1, k2, k3, k4, k5, k6, k7, k8⟩ := hrw.nine he
      have hi : (k : Int) < l.length := by omega
      have hi0 : (0 : Int) ≤ (k : Int) := by omega
      have tk : decide (k < l.length) = true := decide_eq_true hlt
      have hkb : (k : Int) < 1000 := by have := HL.out; omega
      have hm1000 : (m : Int) ≤ 1000 := by
        have h1 := cntL_len (l.take k) kk
        have h2 := HL.out
        have h3 := hR.out.1
        rw [List.length_take] at h1
        omega
      have HT : Hid (cntL (l.take (k + 1)) kk = if e.kind = kk then m + 1 else m) := by
        show _ = _
        rw [take_snocE he, cntL_snoc, ← hR.out.1]
      have HM := Lib.hid hR.out.2
      clear hrw he hR
      obtain ⟨kd, p, f, n, d, vr, x, g, r⟩ := e
      dsimp only at k0 k1 k2 k3 k4 k5 k6 k7 k8 HT
      have hblk : (wr.alloc (.cells #[.int .i64 kd, .int .i64 p, .int .i64 f, .int .u64 n, .int .u64 d, .int .i64 vr, .float .f64 x, .int .u64 g, .int .i64 r] 31)).heap[wr.heap.size]? = some (.cells #[.int .i64 kd, .int .i64 p, .int .i64 f, .int .u64 n, .int .u64 d, .int .i64 vr, .float .f64 x, .int .u64 g, .int .i64 r] 31 (0, 0)) := blk_new _ _
      have m0 := (blk_cell hblk 0).trans rfl
      have HM2 : Hid (Mod (fun _ => False) w (wr.alloc (.cells #[.int .i64 kd, .int .i64 p, .int .i64 f, .int .u64 n, .int .u64 d, .int .i64 vr, .float .f64 x, .int .u64 g, .int .i64 r] 31))) := HM.out.alloc _
      clear hblk HM
      by_cases hp : kd = kk
      · have HE := HT.out
        rw [if_pos hp] at HE
        have tp : (kd == kk) = true := beq_iff_eq.2 hp
        have HE := Lib.hid HE
        clear HT hp
        go_wp2
        go_roundw
        case rel => exact ⟨k + 1, m + 1, by omega, by go_num, by go_num, ⟨HE.out.symm, HM2.out⟩⟩
        case measure => simp [intOf]; omega
      · have HE := HT.out
        rw [if_neg hp] at HE
        have tp : (kd == kk) = false := beq_eq_false_iff_ne.2 hp
        have HE := Lib.hid HE
        clear HT hp
        go_wp2
        go_roundw
        case rel => exact ⟨k + 1, m, by omega, by go_num, rfl, ⟨HE.out.symm, HM2.out⟩⟩
        case measure => simp [intOf]; omega
    · obtain rfl : k = l.length := by omega
      have ti : decide (l.length < l.length) = false := decide_eq_false (by omega)
      rw [List.take_length] at hR
      obtain ⟨h1, h2⟩ := hR.out
      have HM := Lib.hid h2
      subst h1
      clear h2 hR
      go_wp2
      go_ret
      exact ⟨rfl, HM.out⟩
set_option maxHeartbeats 2000000 in
theorem eclone_any (v : Value) (l : List Ev) (w : World) (h : EvRow w v l) (hl : l.length ≤ 1000) : Calls Tryd.prog 33 #[v] w (EGave w l) := by
  obtain ⟨i0, hii, hz0, hz1, hz2⟩ := info_parts Tryd.infoEv
  have H := RowOf.src h (ev_one l)
  obtain ⟨A, c, rfl⟩ := RowOf.form h
  have hnil := fun (a : Option Addr) (n c : Nat) (w : World) => Lib.run_eql_slice_nil (P := Tryd.prog) w 22 31 a n c 0 0 Tryd.underlying22
  cases A with
  | none =>
    have h0 : l = [] := by
      cases l with
      | nil => rfl
      | cons x r =>
        obtain ⟨b, o, cap, cur, he, _⟩ := RowOf.at h (by simp)
        cases he
    subst h0
    have HC : Hid (EGave w [] (.returned (.slice none 0 0)) w) := ⟨_, rfl, RowOf.nil _ _ _, Mod.refl _ _, fun q hq => by cases hq⟩
    clear H h
    go_enter Tryd.func33, Tryd.ntmps33
    go_wp2
    go_ret
    exact HC.out
  | some a =>
    have HO : Hid ((w.alloc (Obj.cells #[] 31)).ownsRow w.heap.size 31 9 (.slice (some ⟨w.heap.size, 0, none⟩) 0 0) 0 []) := World.ownsRow_made w #[] 0 (Nat.le_refl _) (by unfold maxLen; omega) rfl
    have HB : Hid (SrcOk (w.alloc (Obj.cells #[] 31)) (.slice (some a) l.length c) l.length 9 (evFlat l)) := H.below ((Below.refl _ _).alloc (Nat.le_refl _) _)
    have HLN := Lib.hid hl
    clear H h hl
    go_enter Tryd.func33, Tryd.ntmps33
    go_wp2_with (at_builtin; refine wpList_append_src (by rfl) _ _ 22 (by rfl) w.heap.size 31 i0 (.agg #[.int .i64 0, .int .i64 0, .int .i64 0, .int .u64 0, .int .u64 0, .int .i64 0, .float .f64 0, .int .u64 0, .int .i64 0]) 9 72 Tryd.underlying22 hii hz0 hz1 hz2 rfl (by omega) (.slice (some ⟨w.heap.size, 0, none⟩) 0 0) 0 [] (by rfl) HO.out (.slice (some a) l.length c) l.length (evFlat l) (by rfl) HB.out (by have := HLN.out; unfold maxLen; omega) (by have := HLN.out; omega) (by simp) ?_)
    intro v1 w1 hown hgrow hat
    try simp only [Nat.zero_add, List.nil_append] at hown
    have HC : Hid (EGave w l (.returned v1) w1) := ⟨v1, rfl, RowOf.of_own hown, ((Mod.refl (fun _ => False) w).alloc _).grown hgrow (fun k hk => by cases hk; exact Nat.le_refl _), own_base hown⟩
    clear hown hgrow hat
    go_wp2
    go_ret
    exact HC.out
theorem all_any (base B : Nat) (l : List Ev) (av : Value) (w : World) (h : FilmAt w base B l av) (hl : l.length ≤ 1000) :
    Calls Tryd.prog 22 #[.pointer (some ⟨B, 0, none⟩)] w (EGave w l) := by
  have HC := Lib.hid (eclone_any av l w h.row hl)
  have b0 := (blk_cell h.top 0).trans rfl
  clear h
  go_enter Tryd.func22, Tryd.ntmps22
  go_wp2_with fail
  refine HC.out.mono ?_
  rintro q w1 ⟨v, rfl, hv⟩
  have HV := Lib.hid hv
  clear hv
  go_wp2
  go_ret
  exact ⟨v, rfl, HV.out⟩
end Go.Proofs.YtlklbdnlpljaiaaDoor
