/-
  Package ship: Ack.
-/
import Derived.Test.YtcgfbbfepopinaaShipH
namespace Go.Proofs.Ytcgfbbfepopinaa
open Go.RowKit Go.Shoal

def Shp.acked (s : Shp) (n : Nat) : Shp := { s with out := s.out.filter (fun x => decide (n < x.num)), p := s.p.stop }
/-- An Ack that is heard. -/
def Shp.hears (s : Shp) (n : Nat) : Prop := ∃ x r, s.out = x :: r ∧ x.num ≤ n ∧ n ≤ s.last
/-- What a call leaves that may write. -/
def OpEnd (w : World) (B pb : Nat) (ov wv : Value) (s' : Shp) (news : List It) (v : Value) (w' : World) : Prop :=
  ∃ ov' wv', ShipAt w' B pb ov' wv' s' ∧ Mod (Foot B pb ov wv) w w' ∧ (∀ k, ov'.ownBlock = some k → ov.ownBlock = some k ∨ w.heap.size ≤ k) ∧ (∀ k, wv'.ownBlock = some k → wv.ownBlock = some k ∨ w.heap.size ≤ k) ∧
    ItemsAt (fun q => w.heap.size ≤ q ∧ ¬ Foot B pb ov' wv' q) w' v news ∧ ∀ q, v.ownBlock = some q → w.heap.size ≤ q ∧ ¬ Foot B pb ov' wv' q
def AckEnd (w : World) (B pb : Nat) (ov wv : Value) (s : Shp) (n : Nat) (e : Ending) (w' : World) : Prop := ∃ v, e = .returned v ∧ OpEnd w B pb ov wv (s.acked n).filled (s.acked n).news v w'
theorem ItemsAt.first {N : Nat → Prop} {w : World} {v : Value} {x : It} {r : List It} (h : ItemsAt N w v (x :: r)) : ∃ b o c, v = .slice (some ⟨b, o, none⟩) (r.length + 1) c ∧ w.cell? ⟨b, o, none⟩ = some (.int .u64 x.num) := by
  obtain ⟨l', h1, h2, h3⟩ := h
  cases l' with
  | nil => cases h1
  | cons p l' =>
    simp only [List.map_cons, List.cons.injEq] at h1
    obtain ⟨b, o, cap, cur, rfl, hcur, _, hc⟩ := h2.at (by simp)
    refine ⟨b, o, cap, rfl, (blk_cell hcur o).trans ?_⟩
    have := (hc 0 (by simp)).trans (flat_get (p :: l') 0 p rfl).1
    rw [h1.1] at this
    simpa using this
set_option maxHeartbeats 1000000 in
theorem ack_no (w : World) (B pb : Nat) (ov wv : Value) (s : Shp) (n : Nat) (h : ShipAt w B pb ov wv s) (hn : s.out = [] ∨ ∃ x r, s.out = x :: r ∧ (n < x.num ∨ s.last < n)) :
    Calls Try.prog 12 #[.pointer (some ⟨B, 0, none⟩), .int .u64 n] w fun e w' => e = .returned (.slice none 0 0) ∧ Mod (fun _ => False) w w' := by
  have hB := blk_lt h.1
  have c3 : w.cell? ⟨B, 3, none⟩ = some ov := (blk_cell h.1 3).trans rfl
  have c5 := (blk_cell h.1 5).trans rfl
  have hI := h.2.2.1
  clear h
  rcases hn with hn | ⟨x, r, hx, hn⟩
  · rw [hn] at hI
    obtain ⟨l1, _, h1, _⟩ := hI
    obtain ⟨A, c, rfl⟩ := h1.form
    rw [List.length_nil] at c3
    clear h1 hn
    go_enter Try.func12, Try.ntmps12
    go_wp2
    go_quiet (fail)
    go_wp2
    go_ret
    exact ⟨rfl, ((Mod.refl _ _).alloc _).drewN _⟩
  · rw [hx] at hI
    obtain ⟨b, o, c, rfl, k0⟩ := hI.first
    have hb := World.block_lt_of_cell? w _ k0
    have hb' : b < w.heap.size := hb
    have t0 : ((r.length : Int) + 1 == 0) = false := beq_eq_false_iff_ne.2 (by omega)
    have hm0 : (0 : Int) < (r.length : Int) + 1 := by omega
    clear hI hx hb
    by_cases hlt : n < x.num
    · have t1 : decide (n < x.num) = true := decide_eq_true hlt
      clear hn hlt
      go_enter Try.func12, Try.ntmps12
      go_wp2
      go_quiet (fail)
      go_wp2
      go_ret
      exact ⟨rfl, ((Mod.refl _ _).alloc _).drewN _⟩
    · have t1 : decide (n < x.num) = false := decide_eq_false hlt
      have t2 : decide (s.last < n) = true := decide_eq_true (by omega)
      clear hn hlt
      go_enter Try.func12, Try.ntmps12
      go_wp2
      go_quiet (fail)
      go_wp2
      go_ret
      exact ⟨rfl, ((Mod.refl _ _).alloc _).drewN _⟩
/-- Behind DeleteFunc and the store. -/
theorem ack_mid {w u u2 : World} {B pb b o m cap : Nat} {wv : Value} {s : Shp} {n : Nat} {l' : List (It × Value)} (h : ShipAt u B pb (.slice (some ⟨b, o, none⟩) m cap) wv s) (hM : Mod (Foot B pb (.slice (some ⟨b, o, none⟩) m cap) wv) w u)
    (h1 : l'.map (·.1) = s.out) (h3 : ∀ p ∈ l', BytesAt anyN u p.2 p.1.body) (hrow : RowOf u2 45 2 (.slice (some ⟨b, o, none⟩) (keptOf n l').length cap) (keptOf n l').length (flat (keptOf n l'))) (hm : Mod (· = b) u u2) :
    ShipAt (u2.setCell ⟨B, 3, none⟩ (.slice (some ⟨b, o, none⟩) (keptOf n l').length cap)) B pb (.slice (some ⟨b, o, none⟩) (keptOf n l').length cap) wv { s with out := s.out.filter (fun x => decide (n < x.num)) } ∧
      Mod (Foot B pb (.slice (some ⟨b, o, none⟩) m cap) wv) w (u2.setCell ⟨B, 3, none⟩ (.slice (some ⟨b, o, none⟩) (keptOf n l').length cap)) ∧ u2.heap[B]? = u.heap[B]? := by
  obtain ⟨hB, hR⟩ := h
  obtain ⟨_, _, hrw, _⟩ := hR.2.1
  obtain ⟨cu, hcu⟩ := hrw.block (b := b) rfl
  have hkt : KeepT [5, 31, 76, 69] u u2 := KeepT.mod hm (fun k cs t hc e => by subst e; rw [hcu] at hc; cases hc; decide)
  have hB2 := hkt _ _ _ (by decide) hB
  have hs1 : KeepT [5, 31, 76, 45] u2 (u2.setCell ⟨B, 3, none⟩ (.slice (some ⟨b, o, none⟩) (keptOf n l').length cap)) := KeepT.set hB2 (by decide) _
  have hmf : (keptOf n l').map (·.1) = s.out.filter (fun x => decide (n < x.num)) := by
    rw [← h1, List.filter_map]
    rfl
  have hitems : ItemsAt anyN u2 (.slice (some ⟨b, o, none⟩) (keptOf n l').length cap) (s.out.filter (fun x => decide (n < x.num))) :=
    ⟨keptOf n l', hmf, by rw [← hmf, List.length_map]; exact hrow, fun p hp => (h3 p (List.mem_filter.1 hp).1).keepT hkt (by decide)⟩
  refine ⟨⟨(blk_set hB2 3 _).trans rfl, (hR.1.keepT hkt (by decide)).keepT hs1 (by decide), hitems.keepT hs1 (by decide) (by decide), (hR.2.2.keepT hkt (by decide) (by decide)).keepT hs1 (by decide) (by decide)⟩, ?_, hB2.trans hB.symm⟩
  exact (hM.trans' hm (fun i _ e => by subst e; exact .inr (.inr (.inl rfl)))).set (fun _ => .inl rfl) _
theorem op_end {w W w2 : World} {B pb : Nat} {ov ov1 wv wv1 v ov2 wv2 : Value} {s' : Shp} {news : List It} (hM : Mod (Foot B pb ov wv) w W) (ho : ov1.ownBlock = ov.ownBlock) (hw : wv1.ownBlock = wv.ownBlock)
    (a1 : ShipAt w2 B pb ov2 wv2 s') (a2 : Mod (Foot B pb ov1 wv1) W w2) (a3 : ∀ k, ov2.ownBlock = some k → ov1.ownBlock = some k ∨ W.heap.size ≤ k) (a4 : ∀ k, wv2.ownBlock = some k → wv1.ownBlock = some k)
    (a5 : ItemsAt (fun q => W.heap.size ≤ q ∧ ¬ Foot B pb ov2 wv2 q) w2 v news) (a6 : ∀ q, v.ownBlock = some q → W.heap.size ≤ q ∧ ¬ Foot B pb ov2 wv2 q) : OpEnd w B pb ov wv s' news v w2 := by
  have hsz := hM.size
  refine ⟨ov2, wv2, a1, hM.trans' a2 (fun i hi hF => ?_), fun k hk => ?_, fun k hk => .inl (hw ▸ a4 k hk), a5.mono (fun q _ hq => ⟨by omega, hq.2⟩), fun q hq => ⟨by have := (a6 q hq).1; omega, (a6 q hq).2⟩⟩
  · unfold Foot at hF ⊢
    rw [ho, hw] at hF
    exact hF
  · rcases a3 k hk with h | h
    · exact .inl (ho ▸ h)
    · exact .inr (by omega)
set_option maxRecDepth 100000 in
set_option maxHeartbeats 2000000 in
theorem ack_yes (w : World) (B pb : Nat) (ov wv : Value) (s : Shp) (n : Nat) (h : ShipAt w B pb ov wv s) (hf : s.Fit) (hw : s.win ≤ 16) (hn : s.hears n) :
    Calls Try.prog 12 #[.pointer (some ⟨B, 0, none⟩), .int .u64 n] w (AckEnd w B pb ov wv s n) := by
  obtain ⟨x, r, hx, hn1, hn2⟩ := hn
  have hB := blk_lt h.1
  have hI := h.2.2.1
  rw [hx] at hI
  obtain ⟨b, o, c, rfl, k0⟩ := hI.first
  have c3 : w.cell? ⟨B, 3, none⟩ = some (.slice (some ⟨b, o, none⟩) (r.length + 1) c) := (blk_cell h.1 3).trans rfl
  have c5 := (blk_cell h.1 5).trans rfl
  have hb' : b < w.heap.size := World.block_lt_of_cell? w _ k0
  have t0 : ((r.length : Int) + 1 == 0) = false := beq_eq_false_iff_ne.2 (by omega)
  have hm0 : (0 : Int) < (r.length : Int) + 1 := by omega
  have t1 : decide (n < x.num) = false := decide_eq_false (by omega)
  have t2 : decide (s.last < n) = false := decide_eq_false (by omega)
  obtain ⟨l', hl1, hl2, hl3⟩ := h.2.2.1
  have HH := Lib.hid h
  have HX := Lib.hid hx
  have HN1 := Lib.hid hn1
  have HL1 := Lib.hid hl1
  have HF := Lib.hid hf
  have HFA : Hid ((s.acked n).Fit) := ⟨Nat.le_trans (List.length_filter_le _ _) hf.1, hf.2.1, fun y hy => hf.2.2.1 y (List.mem_filter.1 hy).1, hf.2.2.2.1, hf.2.2.2.2⟩
  clear h hI hx hn1 hn2 hl1 hl2 hl3 hf
  go_enter Try.func12, Try.ntmps12
  go_wp2
  go_quiet (fail)
  have HMq : Hid (Mod (fun _ => False) w ((w.alloc (Obj.cells #[.int .u64 n] 34)).drewN nq)) := ((Mod.refl _ _).alloc _).drewN _
  have HSq : Hid (ShipAt ((w.alloc (Obj.cells #[.int .u64 n] 34)).drewN nq) B pb (.slice (some ⟨b, o, none⟩) (r.length + 1) c) wv s) := HH.out.none HMq.out
  have HZ : Hid (((w.alloc (Obj.cells #[.int .u64 n] 34)).drewN nq).heap[w.heap.size]? = some (.cells #[.int .u64 n] 34 (0, 0))) := blk_new w _
  have c3q : ((w.alloc (Obj.cells #[.int .u64 n] 34)).drewN nq).cell? ⟨B, 3, none⟩ = some (.slice (some ⟨b, o, none⟩) (r.length + 1) c) := (blk_cell HSq.out.1 3).trans rfl
  clear c3 c5 k0 hb' hB
  generalize (w.alloc (Obj.cells #[.int .u64 n] 34)).drewN nq = W at *
  obtain ⟨l2, hl1, hl2, hl3⟩ := HSq.out.2.2.1
  have HL1' := Lib.hid hl1
  have HL3' := Lib.hid hl3
  rw [HX.out] at hl1 hl2
  cases l2 with
  | nil => cases hl1
  | cons p0 r' =>
    simp only [List.map_cons, List.cons.injEq] at hl1
    have hlen : r'.length = r.length := by rw [← hl1.2, List.length_map]
    have hD := delete_any b o c w.heap.size n p0 r' W (by rw [List.length_cons, hlen]; exact hl2) (fun p hp => by
      obtain ⟨A, c, e⟩ := (hl3 p hp).1.form
      exact ⟨A, _, c, e⟩) HZ.out (by rw [hl1.1]; exact HN1.out) (by rw [List.length_cons, hlen]; have := HF.out.1; rw [HX.out, List.length_cons] at this; omega)
    rw [List.length_cons, hlen] at hD
    have HD := Lib.hid hD
    clear hD hl1 hl2 hl3 hlen
    generalize hl2e : p0 :: r' = l2 at *
    have HL2E := Lib.hid hl2e
    clear hl2e
    unfold ackF at HD
    go_wp2_with fail
    refine HD.out.mono ?_
    rintro e u2 ⟨rfl, hrow, hm⟩
    have hmid := ack_mid (n := n) HSq.out (HMq.out.mono (fun _ _ x => x.elim)) HL1'.out HL3'.out hrow hm
    have hB2 := hmid.2.2.trans HSq.out.1
    have d2 := (blk_cell hB2 2).trans rfl
    have d3 := (blk_cell hB2 3).trans rfl
    have f3 := blk_frozen hB2 3
    have HMid := Lib.hid hmid
    have HST := Lib.hid (pace_stop_any _ pb s.p hmid.1.2.1)
    clear hmid hB2 hrow hm
    go_wp2_with fail
    refine HST.out.mono ?_
    rintro e w5 ⟨rfl, hp5, hm5⟩
    have HS5 : Hid (ShipAt w5 B pb _ wv (s.acked n)) := HMid.out.1.pace hp5 hm5
    have HM5 : Hid (Mod (Foot B pb (.slice (some ⟨b, o, none⟩) (r.length + 1) c) wv) w w5) := HMid.out.2.1.trans' hm5 (fun i _ e => .inr (.inl e))
    have HFill := Lib.hid (fill_any w5 B pb _ wv (s.acked n) HS5.out HFA.out hw)
    clear hp5 hm5
    go_wp2_with fail
    refine HFill.out.mono ?_
    rintro e w9 ⟨v9, ov9, wv9, rfl, a1, a2, a3, a4, a5, a6⟩
    have HE : Hid (AckEnd w B pb (.slice (some ⟨b, o, none⟩) (r.length + 1) c) wv s n (.returned v9) w9) := ⟨v9, rfl, op_end HM5.out rfl rfl a1 a2 a3 a4 a5 a6⟩
    clear a1 a2 a3 a4 a5 a6
    go_wp2
    go_ret
    exact HE.out
end Go.Proofs.Ytcgfbbfepopinaa
