/-
  The reference's ship: goes.
-/
import Derived.Test.YtcgfbbfepopinaaShipT
import Derived.Test.YtcgfbbfepopinaaPart
namespace Go.Proofs.Ytcgfbbfepopinaa
open Go.RowKit Go.Shoal

theorem Try.infoItem9 : (Try.prog.info? 50).map (fun i => (i.zero, i.size, i.bytes)) = some (some (.agg #[.int .u64 0, .string ByteArray.empty]), 2, 24) := by kernel_rfl
def RStrs (w : World) (v : Value) (l : List ByteArray) : Prop := RowOf w 9 1 v l.length (l.map Value.string)
/-- The reference's ship. -/
structure RSh (w : World) (R pr : Nat) (ov wv : Value) (s : Shp) : Prop where
  top : w.heap[R]? = some (.cells #[.int .i64 s.win, .int .i64 s.que, .pointer (some ⟨pr, 0, none⟩), ov, wv, .int .u64 s.last] 61 (0, 0))
  pace : RefOk w pr s.p
  out : RItemsAt w ov s.out
  waits : RStrs w wv s.waits
def refT : List Nat := [61, 63, 50, 9]
theorem RSh.keepT {ts : List Nat} {w w' : World} {R pr : Nat} {ov wv : Value} {s : Shp} (h : RSh w R pr ov wv s) (hk : KeepT ts w w') (hs : ∀ t ∈ refT, t ∈ ts) : RSh w' R pr ov wv s :=
  ⟨hk _ _ _ (hs _ (by decide)) h.top, hk _ _ _ (hs _ (by decide)) h.pace, RowOf.keepT h.out hk (hs _ (by decide)), RowOf.keepT h.waits hk (hs _ (by decide))⟩
theorem RSh.same {w w' : World} {R pr : Nat} {ov wv : Value} {s : Shp} (h : RSh w R pr ov wv s) (hm : Mod (fun _ => False) w w') : RSh w' R pr ov wv s :=
  h.keepT (ts := refT) (KeepT.mod hm fun _ _ _ _ x => x.elim) (fun _ h => h)
theorem rflat_one (l : List It) : ∀ u ∈ rflat l, u.oneCell' = true := by
  intro u hu
  obtain ⟨x, _, hu⟩ := List.mem_flatMap.1 hu
  simp only [List.mem_cons, List.not_mem_nil, or_false] at hu
  rcases hu with rfl | rfl <;> rfl
theorem rflat_snoc (l : List It) (x : It) : rflat (l ++ [x]) = rflat l ++ [.int .u64 x.num, .string x.body] := by unfold rflat; rw [List.flatMap_append]; rfl
/-- While goes goes. -/
def RGo (w : World) (R pr : Nat) (s : Shp) (j : Nat) (rv : Value) (wr : World) : Prop :=
  ∃ ov wv, RSh wr R pr ov wv (s.fillN j) ∧ RItemsAt wr rv (numbered s.last (s.waits.take j)) ∧ (∀ k, rv.ownBlock = some k → w.heap.size ≤ k ∧ ov.ownBlock ≠ some k) ∧ Mod (· = R) w wr
def RGone (w : World) (R pr : Nat) (s : Shp) (e : Ending) (w' : World) : Prop :=
  ∃ rv, e = .returned rv ∧ ∃ ov wv, RSh w' R pr ov wv (s.fillN s.goes) ∧ RItemsAt w' rv s.news ∧ Mod (· = R) w w'
/-- In the midst of a round. -/
def GMid (w : World) (R xb : Nat) (ov : Value) (q : Int) (b : ByteArray) (w' : World) : Prop :=
  w'.cell? ⟨R, 3, none⟩ = some ov ∧ w'.cell? ⟨xb, 0, none⟩ = some (.int .u64 q) ∧ w'.cell? ⟨xb, 1, none⟩ = some (.string b) ∧ w'.frozen? ⟨R, 3, none⟩ = false ∧ Below w.heap.size w w' ∧ (R < w.heap.size ∧ xb < w.heap.size)
theorem GMid.next {w a b : World} {R xb : Nat} {ov : Value} {q : Int} {s : ByteArray} (h : GMid w R xb ov q s a) (hb : Below w.heap.size w b) : GMid w R xb ov q s b := by
  obtain ⟨h1, h2, h3, h4, h5, h6, h7⟩ := h
  exact ⟨((hb.cell (p := ⟨R, 3, none⟩) h6).trans (h5.cell (p := ⟨R, 3, none⟩) h6).symm).trans h1, ((hb.cell (p := ⟨xb, 0, none⟩) h7).trans (h5.cell (p := ⟨xb, 0, none⟩) h7).symm).trans h2, ((hb.cell (p := ⟨xb, 1, none⟩) h7).trans (h5.cell (p := ⟨xb, 1, none⟩) h7).symm).trans h3, ((hb.frozen (p := ⟨R, 3, none⟩) h6).trans (h5.frozen (p := ⟨R, 3, none⟩) h6).symm).trans h4, hb, h6, h7⟩
theorem GMid.alloc {w a : World} {R xb : Nat} {ov : Value} {q : Int} {s : ByteArray} (h : GMid w R xb ov q s a) (o : Obj) : GMid w R xb ov q s (a.alloc o) := h.next (h.2.2.2.2.1.alloc h.2.2.2.2.1.size o)
theorem GMid.grown {w a b : World} {R xb : Nat} {ov u : Value} {q : Int} {s : ByteArray} {e m : Nat} {xs : List Value} (h : GMid w R xb ov q s a) (ho : a.ownsRow w.heap.size e 2 u m xs) (hg : a.grownBy b u.ownBlock) : GMid w R xb ov q s b :=
  h.next (below_grown h.2.2.2.2.1 hg (own_base ho) h.2.2.2.2.1.size)
theorem rgo_cells {w : World} {R rb ro : Nat} {c0 c1 c2 c3 c4 c5 bv : Value} {cu : Array Value} {t t' : TypeId} (hB : w.heap[R]? = some (.cells #[c0, c1, c2, c3, c4, c5] t (0, 0))) (hr : w.heap[rb]? = some (.cells cu t' (0, 0))) (hc : cu[ro]? = some bv) :
    w.cell? ⟨R, 5, none⟩ = some c5 ∧ w.cell? ⟨R, 4, none⟩ = some c4 ∧ w.cell? ⟨rb, ro, none⟩ = some bv := ⟨(blk_cell hB 5).trans rfl, (blk_cell hB 4).trans rfl, (blk_cell hr ro).trans hc⟩
theorem rgo_next {w wr W2 w1 : World} {R pr rb ro c : Nat} {s : Shp} {j : Nat} {b : ByteArray} {r : List ByteArray} {ov wv rv v1 : Value} (hw : s.waits.drop j = b :: r) (hwv : wv = .slice (some ⟨rb, ro, none⟩) (r.length + 1) (c + 1))
    (hS : RSh wr R pr ov wv (s.fillN j)) (hM : Mod (· = R) w wr) (hr : RItemsAt wr rv (numbered s.last (s.waits.take j))) (hrv : ∀ k, rv.ownBlock = some k → w.heap.size ≤ k ∧ ov.ownBlock ≠ some k)
    (hm2 : Mod (· = R) wr W2) (hB2 : W2.heap[R]? = some (.cells #[.int .i64 s.win, .int .i64 s.que, .pointer (some ⟨pr, 0, none⟩), ov, .slice (some ⟨rb, if c = 0 then ro else ro + 1, none⟩) r.length c, .int .u64 ((s.last : Int) + j + 1)] 61 (0, 0)))
    (hb : Below W2.heap.size W2 w1) (hrow : w1.ownsRow W2.heap.size 50 2 v1 ((s.out.length + j) + 1) (rflat (s.fillN j).out ++ [.int .u64 ((s.last : Int) + j + 1), .string b])) :
    RSh (w1.setCell ⟨R, 3, none⟩ v1) R pr v1 (.slice (some ⟨rb, if c = 0 then ro else ro + 1, none⟩) r.length c) (s.fillN (j + 1)) ∧ Mod (· = R) w (w1.setCell ⟨R, 3, none⟩ v1) ∧ RItemsAt (w1.setCell ⟨R, 3, none⟩ v1) rv (numbered s.last (s.waits.take j)) ∧ (∀ k, rv.ownBlock = some k → w.heap.size ≤ k ∧ v1.ownBlock ≠ some k) ∧ numbered s.last (s.waits.take (j + 1)) = numbered s.last (s.waits.take j) ++ [⟨s.last + j + 1, b⟩] := by
  have hjl : j < s.waits.length := by
    have : (s.waits.drop j).length = (b :: r).length := by rw [hw]
    rw [List.length_drop, List.length_cons] at this
    omega
  have htk : s.waits.take (j + 1) = s.waits.take j ++ [b] := by
    rw [List.take_add_one]
    congr 1
    rw [← List.head?_drop, hw]
    rfl
  have hdr : s.waits.drop (j + 1) = r := by
    rw [← List.drop_drop, hw]
    rfl
  have hnum : numbered s.last (s.waits.take (j + 1)) = numbered s.last (s.waits.take j) ++ [⟨s.last + j + 1, b⟩] := by
    rw [htk, numbered_snoc, List.length_take, Nat.min_eq_left (by omega)]
  have hlen : (s.fillN j).out.length = s.out.length + j := by
    show (s.out ++ numbered s.last (s.waits.take j)).length = _
    rw [List.length_append, numbered_length, List.length_take, Nat.min_eq_left (by omega)]
  have hout : (s.fillN (j + 1)).out = (s.fillN j).out ++ [⟨s.last + j + 1, b⟩] := by
    show s.out ++ numbered s.last (s.waits.take (j + 1)) = s.out ++ numbered s.last (s.waits.take j) ++ _
    rw [hnum, List.append_assoc]
  have hBz := blk_lt hB2
  have hB1 := (hb.block _ hBz).trans hB2
  have hmA : Mod (· = R) wr w1 := hm2.trans (Mod.of_below hb)
  have hmB : Mod (· = R) wr (w1.setCell ⟨R, 3, none⟩ v1) := hmA.set (fun _ => rfl) _
  have hkp : KeepT [63, 50, 9] wr (w1.setCell ⟨R, 3, none⟩ v1) := KeepT.mod hmB fun k cs t hk e => by
    subst e
    rw [hS.top] at hk
    cases hk
    decide
  have hwt : RStrs wr (.slice (some ⟨rb, if c = 0 then ro else ro + 1, none⟩) r.length c) r := by
    have h := hS.waits
    have e : (s.fillN j).waits = b :: r := hw
    unfold RStrs at h
    rw [e, hwv] at h
    have := RowOf.tail h
    exact this
  have hro1 := RowOf.of_own hrow
  have hrk : RowOf (w1.setCell ⟨R, 3, none⟩ v1) 50 2 v1 ((s.out.length + j) + 1) (rflat (s.fillN j).out ++ [.int .u64 ((s.last : Int) + j + 1), .string b]) := hro1.keep fun q hq => Below.heap_setCell w1 ⟨R, 3, none⟩ v1 q (by obtain ⟨cur, hc⟩ := hro1.block hq; exact blk_ne hc hB1 (by decide))
  refine ⟨⟨(blk_set hB1 3 v1).trans ?_, hkp _ _ _ (by decide) hS.pace, ?_, ?_⟩, hM.trans hmB, RowOf.keepT hr hkp (by decide), fun k hk => ⟨(hrv k hk).1, fun e => ?_⟩, hnum⟩
  · show some (Obj.cells #[.int .i64 s.win, .int .i64 s.que, .pointer (some ⟨pr, 0, none⟩), v1, .slice (some ⟨rb, if c = 0 then ro else ro + 1, none⟩) r.length c, .int .u64 ((s.last : Int) + j + 1)] 61 (0, 0)) = some (Obj.cells #[.int .i64 s.win, .int .i64 s.que, .pointer (some ⟨pr, 0, none⟩), v1, .slice (some ⟨rb, if c = 0 then ro else ro + 1, none⟩) r.length c, .int .u64 ((s.last + (j + 1) : Nat) : Int)] 61 (0, 0))
    rw [show ((s.last + (j + 1) : Nat) : Int) = (s.last : Int) + j + 1 by omega]
  · unfold RItemsAt
    rw [hout, rflat_snoc, List.length_append, hlen]
    exact hrk
  · show RStrs _ _ (s.waits.drop (j + 1))
    rw [hdr]
    exact RowOf.keepT hwt hkp (by decide)
  · have h1 := (RowOf.lt hr hk)
    have h2 := own_base hrow k e
    have := hm2.size
    omega
theorem rgo_last {w W1 w2 : World} {R pr : Nat} {s : Shp} {j : Nat} {b : ByteArray} {ov wv rv v2 : Value} {o : Obj} (hS : RSh W1 R pr ov wv (s.fillN (j + 1))) (hM : Mod (· = R) w W1) (hr : RItemsAt W1 rv (numbered s.last (s.waits.take j))) (hrv : ∀ k, rv.ownBlock = some k → w.heap.size ≤ k ∧ ov.ownBlock ≠ some k)
    (hn : numbered s.last (s.waits.take (j + 1)) = numbered s.last (s.waits.take j) ++ [⟨s.last + j + 1, b⟩]) (hrow : RowOf w2 50 2 v2 ((numbered s.last (s.waits.take j)).length + 1) (rflat (numbered s.last (s.waits.take j)) ++ [.int .u64 ((s.last : Int) + j + 1), .string b]))
    (hg : (W1.alloc o).grownBy w2 rv.ownBlock) (hat : v2.ownBlock = rv.ownBlock ∨ v2.ownBlock = some (W1.heap.size + 1)) : RGo w R pr s (j + 1) v2 w2 := by
  have hne : ∀ k, rv.ownBlock = some k → k ≠ R := fun k hk => by
    obtain ⟨cur, hc⟩ := RowOf.block hr hk
    exact blk_ne hc hS.top (by decide)
  have hm : Mod (fun k => rv.ownBlock = some k) W1 w2 := ((Mod.refl _ _).alloc o).trans' (Mod.of_grown (S := fun k => rv.ownBlock = some k) hg (fun k e _ => e)) (fun _ _ e => e)
  have hkp : KeepT [61, 63, 9] W1 w2 := KeepT.mod hm fun k cs t hk e => by
    obtain ⟨cur, hc⟩ := RowOf.block hr e
    rw [hc] at hk
    cases hk
    decide
  refine ⟨ov, wv, ⟨hkp _ _ _ (by decide) hS.top, hkp _ _ _ (by decide) hS.pace, RowOf.mod hS.out hm (fun k hk e => (hrv k e).2 hk), RowOf.keepT hS.waits hkp (by decide)⟩, ?_, fun k hk => ?_, hM.trans' hm (fun i hi e => by have := (hrv i e).1; omega)⟩
  · unfold RItemsAt
    rw [hn, rflat_snoc, List.length_append]
    exact hrow
  · rcases hat with e | e
    · exact hrv k (e ▸ hk)
    · rw [e] at hk
      have hk := Option.some.inj hk
      have := hM.size
      refine ⟨by omega, fun e' => ?_⟩
      have := RowOf.lt hS.out e'
      omega
set_option maxRecDepth 100000 in
set_option maxHeartbeats 4000000 in
theorem rgoes_any (w : World) (R pr : Nat) (ov wv : Value) (s : Shp) (h : RSh w R pr ov wv s) (hf : s.Fit) (hw : s.win ≤ 16) : Calls Try.prog 34 #[.pointer (some ⟨R, 0, none⟩)] w (RGone w R pr s) := by
  obtain ⟨i0, hii, hz0, hz1, hz2⟩ := info_parts Try.infoItem9
  have HF0 : Hid (RGo w R pr s 0 (.slice none 0 0) w) := ⟨ov, wv, by rw [Shp.fillN_zero]; exact h, RowOf.nil _ _ _, fun k hk => (by cases hk), Mod.refl _ _⟩
  have HF := Lib.hid hf
  clear h hf
  go_enter Try.func34, Try.ntmps34
  go_wp2
  go_loopg [3] s.goes (fun g rv0 wr => ∃ (j : Nat) (rv : Value), j ≤ s.goes ∧ g = s.goes - j ∧ rv = rv0 ∧ Hid (RGo w R pr s j rv wr))
  case atStart => exact ⟨0, _, Nat.zero_le _, rfl, rfl, HF0⟩
  case round =>
    obtain ⟨j, rv, hj, rfl, rfl, hR⟩ := hrel
    obtain ⟨ov1, wv1, hS, hr, hrv, hM⟩ := hR.out
    obtain ⟨n1, n2⟩ := s.fillN_len hj
    obtain ⟨A1, k1, hov1⟩ := RowOf.form hS.out
    obtain ⟨A2, k2, hwv1⟩ := RowOf.form hS.waits
    rw [n1] at hov1
    rw [n2] at hwv1
    have c0 : wr.cell? ⟨R, 0, none⟩ = some (.int .i64 s.win) := (blk_cell hS.top 0).trans rfl
    have c3 : wr.cell? ⟨R, 3, none⟩ = some ov1 := (blk_cell hS.top 3).trans rfl
    have c4 : wr.cell? ⟨R, 4, none⟩ = some wv1 := (blk_cell hS.top 4).trans rfl
    have c5 : wr.cell? ⟨R, 5, none⟩ = some (.int .u64 ((s.last + j : Nat) : Int)) := (blk_cell hS.top 5).trans rfl
    have c5' : wr.cell? ⟨R, 5, none⟩ = some (.int .u64 ((s.last : Int) + j)) := by rw [c5]; rfl
    have z5 := blk_frozen hS.top 5
    have hlast : (s.last : Int) + j ≤ 2000000 := by have := HF.out.2.2.2.2; have := HF.out.2.1; unfold Shp.goes at hj; omega
    have hlast0 : (0 : Int) ≤ (s.last : Int) + j := by omega
    by_cases hgo : j < s.goes
    · obtain ⟨g1, g2⟩ := Shp.goes_step hgo
      obtain ⟨b, r, hbr⟩ : ∃ b r, s.waits.drop j = b :: r := by
        cases hd : s.waits.drop j with
        | nil => have := List.drop_eq_nil_iff.1 hd; omega
        | cons b r => exact ⟨b, r, rfl⟩
      have hfw : (s.fillN j).waits = b :: r := hbr
      have hrl : s.waits.length - j = r.length + 1 := by
        have : (s.waits.drop j).length = (b :: r).length := by rw [hbr]
        rw [List.length_drop, List.length_cons] at this
        exact this
      have hwr := hS.waits
      unfold RStrs at hwr
      rw [hfw] at hwr
      obtain ⟨rb, ro, cap, cur, hwv2, hcur, hcap, hcells⟩ := hwr.at (by simp)
      obtain ⟨c', rfl⟩ : ∃ c', cap = c' + 1 := ⟨cap - 1, by simp at hcap; omega⟩
      have hcu : cur[ro]? = some (.string b) := by have := hcells 0 (by simp); simpa using this
      have e0 : wr.cell? ⟨rb, ro, none⟩ = some (.string b) := (blk_cell hcur _).trans hcu
      rw [List.length_cons] at hwv2
      rw [hov1] at c3
      rw [hwv2] at c4
      have t1 : decide ((0 : Int) < (r.length : Int) + 1) = true := decide_eq_true (by omega)
      have t2 : decide (s.out.length + j < s.win) = true := decide_eq_true g2
      have t3 : decide ((s.out.length : Int) + j < s.win) = true := decide_eq_true (by omega)
      have h1m : (1 : Int) ≤ (r.length : Int) + 1 := by omega
      have HS := Lib.hid hS
      have HR0 := Lib.hid hr
      have HRV := Lib.hid hrv
      have HM := Lib.hid hM
      have HBR := Lib.hid hbr
      have HWV2 := Lib.hid hwv2
      have HOV1 := Lib.hid hov1
      have HCU := Lib.hid hcu
      have HCUR := Lib.hid hcur
      have HTOP : Hid (wr.heap[R]? = some (.cells #[.int .i64 s.win, .int .i64 s.que, .pointer (some ⟨pr, 0, none⟩), .slice A1 (s.out.length + j) k1, .slice (some ⟨rb, ro, none⟩) (r.length + 1) (c' + 1), .int .u64 ((s.last : Int) + j)] 61 (0, 0))) := by
        have h := hS.top
        rw [hov1, hwv2] at h
        exact h
      have HN1 := Lib.hid n1
      have HROW : Hid (RowOf wr 50 2 ov1 (s.out.length + j) (rflat (s.fillN j).out)) := by
        have h := hS.out
        unfold RItemsAt at h
        rw [n1] at h
        exact h
      have hol : s.out.length + j ≤ 16 := by omega
      have hrlz : (numbered s.last (s.waits.take j)).length ≤ 32 := by
        have := HF.out.2.1
        rw [numbered_length, List.length_take]
        omega
      have HRL := Lib.hid hrlz
      clear hS hr hrv hM hR hfw hrl hwr hcur hcap hcells hcu hwv1 hwv2 hov1 hbr n1 n2 g1 g2 c5 hrlz
      go_wp2_with fail
      go_quiet (fail)
      go_wp2_with fail
      have HB0 : Hid (((wr.drewN nq).setCell ⟨R, 5, none⟩ (.int .u64 ((s.last : Int) + j + 1))).heap[R]? = some (.cells #[.int .i64 s.win, .int .i64 s.que, .pointer (some ⟨pr, 0, none⟩), .slice A1 (s.out.length + j) k1, .slice (some ⟨rb, ro, none⟩) (r.length + 1) (c' + 1), .int .u64 ((s.last : Int) + j + 1)] 61 (0, 0))) := (blk_set (show (wr.drewN nq).heap[R]? = _ from HTOP.out) 5 _).trans rfl
      have HM0 : Hid (Mod (· = R) wr ((wr.drewN nq).setCell ⟨R, 5, none⟩ (.int .u64 ((s.last : Int) + j + 1)))) := ((Mod.refl (· = R) wr).drewN nq).set (fun _ => rfl) _
      have HC0 : Hid (((wr.drewN nq).setCell ⟨R, 5, none⟩ (.int .u64 ((s.last : Int) + j + 1))).heap[rb]? = some (.cells cur 9 (0, 0))) := blk_far (show (wr.drewN nq).heap[rb]? = _ from HCUR.out) (blk_ne HCUR.out HTOP.out (by decide)) _
      clear c0 c3 c4 c5' z5 e0
      generalize (wr.drewN nq).setCell ⟨R, 5, none⟩ (.int .u64 ((s.last : Int) + j + 1)) = V0 at *
      trace_state
      refine wp_region_part (S := fun w' => w'.cell? ⟨R, 5, none⟩ = some (.int .u64 ((s.last : Int) + j + 1)) ∧ w'.cell? ⟨R, 4, none⟩ = some (.slice (some ⟨rb, ro, none⟩) (r.length + 1) (c' + 1)) ∧ w'.cell? ⟨rb, ro, none⟩ = some (.string b)) [12] (by kernel_rfl) ?_ (fun hHeld => ?_)
      · exact rgo_cells HB0.out HC0.out HCU.out
      have HBu : Hid (V0.drew.heap[R]? = some (.cells #[.int .i64 s.win, .int .i64 s.que, .pointer (some ⟨pr, 0, none⟩), .slice A1 (s.out.length + j) k1, .slice (some ⟨rb, ro, none⟩) (r.length + 1) (c' + 1), .int .u64 ((s.last : Int) + j + 1)] 61 (0, 0))) := HB0.out
      have HCu : Hid (V0.drew.heap[rb]? = some (.cells cur 9 (0, 0))) := HC0.out
      have HMu : Hid (Mod (· = R) wr V0.drew) := HM0.out.drew
      clear HB0 HC0 HM0
      generalize V0.drew = u at *
      refine wpPart_take (i := 0) (oi := { dst := some 30, op := Op.move (Operand.tmp 0), type := 53, pos := "ref.go:173", after := #[], guard := none }) (v := ?_) rfl (by kernel_rfl) (by kernel_rfl) (by kernel_rfl) (by kernel_rfl) (by kernel_rfl) (fun _ _ _ h => h) (Or.inl ⟨by rfl, ?_⟩) (by assumption) ?_
      rotate_left
      · intro w hSw; (try dsimp only at hSw); go_simp <;> with_reducible rfl
      try simp only [Act.put, List.setIfInBounds_toArray, List.set_cons_zero, List.set_cons_succ]
      refine wpPart_take (i := 1) (oi := { dst := some 31, op := Op.nilCheck (Operand.tmp 30), type := 0, pos := "ref.go:173", after := #[{ on := 0, ground := Ground.data }], guard := none }) (v := ?_) rfl (by kernel_rfl) (by kernel_rfl) (by kernel_rfl) (by kernel_rfl) (by kernel_rfl) (fun _ _ _ h => h) (Or.inl ⟨by rfl, ?_⟩) (by assumption) ?_
      rotate_left
      · intro w hSw; (try dsimp only at hSw); go_simp <;> with_reducible rfl
      try simp only [Act.put, List.setIfInBounds_toArray, List.set_cons_zero, List.set_cons_succ]
      refine wpPart_take (i := 2) (oi := { dst := some 32, op := Op.fieldAddr 61 (Operand.tmp 31) 5, type := 0, pos := "ref.go:173", after := #[{ on := 1, ground := Ground.data }], guard := none }) (v := ?_) rfl (by kernel_rfl) (by kernel_rfl) (by kernel_rfl) (by kernel_rfl) (by kernel_rfl) (fun _ _ _ h => h) (Or.inl ⟨by rfl, ?_⟩) (by assumption) ?_
      rotate_left
      · intro w hSw; (try dsimp only at hSw); go_simp <;> with_reducible rfl
      try simp only [Act.put, List.setIfInBounds_toArray, List.set_cons_zero, List.set_cons_succ]
      refine wpPart_take (i := 3) (oi := { dst := some 33, op := Op.load 34 (Operand.tmp 32), type := 34, pos := "ref.go:173", after := #[{ on := 2, ground := Ground.data }], guard := none }) (v := ?_) rfl (by kernel_rfl) (by kernel_rfl) (by kernel_rfl) (by kernel_rfl) (by kernel_rfl) (fun _ _ _ h => h) (Or.inl ⟨by rfl, ?_⟩) (by assumption) ?_
      rotate_left
      · intro w hSw; (try dsimp only at hSw); go_simp <;> with_reducible rfl
      try simp only [Act.put, List.setIfInBounds_toArray, List.set_cons_zero, List.set_cons_succ]
      refine wpPart_take (i := 4) (oi := { dst := some 34, op := Op.move (Operand.tmp 0), type := 53, pos := "ref.go:173", after := #[], guard := none }) (v := ?_) rfl (by kernel_rfl) (by kernel_rfl) (by kernel_rfl) (by kernel_rfl) (by kernel_rfl) (fun _ _ _ h => h) (Or.inl ⟨by rfl, ?_⟩) (by assumption) ?_
      rotate_left
      · intro w hSw; (try dsimp only at hSw); go_simp <;> with_reducible rfl
      try simp only [Act.put, List.setIfInBounds_toArray, List.set_cons_zero, List.set_cons_succ]
      refine wpPart_take (i := 5) (oi := { dst := some 35, op := Op.nilCheck (Operand.tmp 34), type := 0, pos := "ref.go:173", after := #[{ on := 4, ground := Ground.data }], guard := none }) (v := ?_) rfl (by kernel_rfl) (by kernel_rfl) (by kernel_rfl) (by kernel_rfl) (by kernel_rfl) (fun _ _ _ h => h) (Or.inl ⟨by rfl, ?_⟩) (by assumption) ?_
      rotate_left
      · intro w hSw; (try dsimp only at hSw); go_simp <;> with_reducible rfl
      try simp only [Act.put, List.setIfInBounds_toArray, List.set_cons_zero, List.set_cons_succ]
      refine wpPart_take (i := 6) (oi := { dst := some 36, op := Op.fieldAddr 61 (Operand.tmp 35) 4, type := 0, pos := "ref.go:173", after := #[{ on := 5, ground := Ground.data }], guard := none }) (v := ?_) rfl (by kernel_rfl) (by kernel_rfl) (by kernel_rfl) (by kernel_rfl) (by kernel_rfl) (fun _ _ _ h => h) (Or.inl ⟨by rfl, ?_⟩) (by assumption) ?_
      rotate_left
      · intro w hSw; (try dsimp only at hSw); go_simp <;> with_reducible rfl
      try simp only [Act.put, List.setIfInBounds_toArray, List.set_cons_zero, List.set_cons_succ]
      refine wpPart_take (i := 7) (oi := { dst := some 37, op := Op.load 22 (Operand.tmp 36), type := 22, pos := "ref.go:173", after := #[{ on := 6, ground := Ground.data }], guard := none }) (v := ?_) rfl (by kernel_rfl) (by kernel_rfl) (by kernel_rfl) (by kernel_rfl) (by kernel_rfl) (fun _ _ _ h => h) (Or.inl ⟨by rfl, ?_⟩) (by assumption) ?_
      rotate_left
      · intro w hSw; (try dsimp only at hSw); go_simp <;> with_reducible rfl
      try simp only [Act.put, List.setIfInBounds_toArray, List.set_cons_zero, List.set_cons_succ]
      refine wpPart_take (i := 8) (oi := { dst := some 38, op := Op.indexAddr 22 (Operand.tmp 37) (Operand.const (Value.int IntKind.i64 0)), type := 0, pos := "ref.go:173", after := #[{ on := 7, ground := Ground.data }], guard := none }) (v := ?_) rfl (by kernel_rfl) (by kernel_rfl) (by kernel_rfl) (by kernel_rfl) (by kernel_rfl) (fun _ _ _ h => h) (Or.inl ⟨by rfl, ?_⟩) (by assumption) ?_
      rotate_left
      · intro w hSw; (try dsimp only at hSw); go_simp <;> with_reducible rfl
      try simp only [Act.put, List.setIfInBounds_toArray, List.set_cons_zero, List.set_cons_succ]
      refine wpPart_take (i := 9) (oi := { dst := some 39, op := Op.load 9 (Operand.tmp 38), type := 9, pos := "ref.go:173", after := #[{ on := 8, ground := Ground.data }], guard := none }) (v := ?_) rfl (by kernel_rfl) (by kernel_rfl) (by kernel_rfl) (by kernel_rfl) (by kernel_rfl) (fun _ _ _ h => h) (Or.inl ⟨by rfl, ?_⟩) (by assumption) ?_
      rotate_left
      · intro w hSw; (try dsimp only at hSw); go_simp <;> with_reducible rfl
      try simp only [Act.put, List.setIfInBounds_toArray, List.set_cons_zero, List.set_cons_succ]
      refine wpPart_take (i := 10) (oi := { dst := some 40, op := Op.build 50 #[(0, Operand.tmp 33), (1, Operand.tmp 39)], type := 50, pos := "ref.go:173", after := #[{ on := 3, ground := Ground.data }, { on := 9, ground := Ground.data }], guard := none }) (v := ?_) rfl (by kernel_rfl) (by kernel_rfl) (by kernel_rfl) (by kernel_rfl) (by kernel_rfl) (fun _ _ _ h => h) (Or.inl ⟨by rfl, ?_⟩) (by assumption) ?_
      rotate_left
      · intro w hSw; (try dsimp only at hSw); go_simp <;> with_reducible rfl
      try simp only [Act.put, List.setIfInBounds_toArray, List.set_cons_zero, List.set_cons_succ]
      refine wpPart_ready (rs := [11]) (by kernel_rfl) (by simp) ?_
      refine AllPart.cons (o := { dst := some 4, op := Op.alloc 50, type := 0, pos := "ref.go:173", after := #[], guard := none }) rfl (by kernel_rfl) (fun K hK => ?_) AllPart.nil
      go_simp
      refine hK.out _ _ ?_ (fun hHeld => ?_)
      · exact rgo_cells (blk_alloc HBu.out _) (blk_alloc HCu.out _) HCU.out
      clear hK K
      try simp only [Act.put, List.setIfInBounds_toArray, List.set_cons_zero, List.set_cons_succ]
      refine wpPart_ready (rs := [12]) (by kernel_rfl) (by simp) ?_
      refine AllPart.last (o := { dst := none, op := Op.store 50 (Operand.tmp 4) (Operand.tmp 40), type := 0, pos := "ref.go:173", after := #[{ on := 11, ground := Ground.data }, { on := 10, ground := Ground.data }, { on := 0, ground := Ground.phase }, { on := 1, ground := Ground.phase }, { on := 2, ground := Ground.phase }, { on := 3, ground := Ground.phase }, { on := 4, ground := Ground.phase }, { on := 5, ground := Ground.phase }, { on := 6, ground := Ground.phase }, { on := 7, ground := Ground.phase }, { on := 8, ground := Ground.phase }, { on := 9, ground := Ground.phase }, { on := 10, ground := Ground.phase }, { on := 11, ground := Ground.phase }], guard := none }) rfl (by kernel_rfl) (fun K hK => ?_) AllPart.nil
      go_simp
      refine hK.out _ _ ?_
      clear hK K
      try simp only [Act.put, List.setIfInBounds_toArray, List.set_cons_zero, List.set_cons_succ]
      refine wpPart_done (by kernel_rfl) ?_ _
      have HX1 : Hid ((u.alloc (.cells #[.int .u64 ((s.last : Int) + j + 1), .string b] 50)).heap[u.heap.size]? = some (.cells #[.int .u64 ((s.last : Int) + j + 1), .string b] 50 (0, 0))) := blk_new _ _
      have HB1 := Lib.hid (blk_alloc HBu.out (.cells #[.int .u64 ((s.last : Int) + j + 1), .string b] 50))
      have HM1 : Hid (Mod (· = R) wr (u.alloc (.cells #[.int .u64 ((s.last : Int) + j + 1), .string b] 50))) := HMu.out.alloc _
      clear hHeld HBu HCu HMu
      generalize u.heap.size = xb at *
      generalize u.alloc (.cells #[.int .u64 ((s.last : Int) + j + 1), .string b] 50) = V1 at *
      have d4 : V1.cell? ⟨R, 4, none⟩ = some (.slice (some ⟨rb, ro, none⟩) (r.length + 1) (c' + 1)) := (blk_cell HB1.out 4).trans rfl
      have z4 := blk_frozen HB1.out 4
      rcases c' with _ | cz
      · skip
        go_wp2_with fail
        have HB2 : Hid ((V1.setCell ⟨R, 4, none⟩ (.slice (some ⟨rb, ro, none⟩) r.length 0)).heap[R]? = some (.cells #[.int .i64 s.win, .int .i64 s.que, .pointer (some ⟨pr, 0, none⟩), .slice A1 (s.out.length + j) k1, .slice (some ⟨rb, if 0 = 0 then ro else ro + 1, none⟩) r.length 0, .int .u64 ((s.last : Int) + j + 1)] 61 (0, 0))) := (blk_set HB1.out 4 _).trans rfl
        have HX2 : Hid ((V1.setCell ⟨R, 4, none⟩ (.slice (some ⟨rb, ro, none⟩) r.length 0)).heap[xb]? = some (.cells #[.int .u64 ((s.last : Int) + j + 1), .string b] 50 (0, 0))) := blk_far HX1.out (blk_ne HX1.out HB1.out (by decide)) _
        have HM2 : Hid (Mod (· = R) wr (V1.setCell ⟨R, 4, none⟩ (.slice (some ⟨rb, ro, none⟩) r.length 0))) := HM1.out.set (fun _ => rfl) _
        clear d4 z4 HX1 HB1 HM1
        generalize V1.setCell ⟨R, 4, none⟩ (.slice (some ⟨rb, ro, none⟩) r.length 0) = V2 at *
        have HP : Hid (GMid V2 R xb (.slice A1 (s.out.length + j) k1) ((s.last : Int) + j + 1) b V2.drew) := ⟨(blk_cell HB2.out 3).trans rfl, (blk_cell HX2.out 0).trans rfl, (blk_cell HX2.out 1).trans rfl, blk_frozen HB2.out 3, (Below.refl _ _).drew, blk_lt HB2.out, blk_lt HX2.out⟩
        have HSRC : Hid (SrcOk V2 (.slice A1 (s.out.length + j) k1) (s.out.length + j) 2 (rflat (s.fillN j).out)) := by
          have h := HROW.out
          rw [HOV1.out] at h
          have hk : KeepT [50] wr V2 := KeepT.mod HM2.out fun k cs t hk e => by
            subst e
            rw [HTOP.out] at hk
            cases hk
            decide
          exact RowOf.src (RowOf.keepT h hk (by decide)) (rflat_one _)
        refine wp_region_part (S := fun w' => w'.cell? ⟨R, 3, none⟩ = some (.slice A1 (s.out.length + j) k1) ∧ w'.cell? ⟨xb, 0, none⟩ = some (.int .u64 ((s.last : Int) + j + 1)) ∧ w'.cell? ⟨xb, 1, none⟩ = some (.string b) ∧ w'.frozen? ⟨R, 3, none⟩ = false ∧ Below V2.heap.size V2 w' ∧ (R < V2.heap.size ∧ xb < V2.heap.size)) [12] (by kernel_rfl) ?_ (fun hHeld => ?_)
        · exact HP.out
        generalize V2.drew = u0 at *
        refine wpPart_take (i := 0) (oi := { dst := some 49, op := Op.move (Operand.tmp 0), type := 53, pos := "ref.go:175", after := #[], guard := none }) (v := ?_) rfl (by kernel_rfl) (by kernel_rfl) (by kernel_rfl) (by kernel_rfl) (by kernel_rfl) (fun _ _ _ h => h) (Or.inl ⟨by rfl, ?_⟩) (by assumption) ?_
        rotate_left
        · intro w hSw; (try dsimp only at hSw); go_simp <;> with_reducible rfl
        try simp only [Act.put, List.setIfInBounds_toArray, List.set_cons_zero, List.set_cons_succ]
        refine wpPart_take (i := 2) (oi := { dst := some 51, op := Op.move (Operand.tmp 0), type := 53, pos := "ref.go:175", after := #[], guard := none }) (v := ?_) rfl (by kernel_rfl) (by kernel_rfl) (by kernel_rfl) (by kernel_rfl) (by kernel_rfl) (fun _ _ _ h => h) (Or.inl ⟨by rfl, ?_⟩) (by assumption) ?_
        rotate_left
        · intro w hSw; (try dsimp only at hSw); go_simp <;> with_reducible rfl
        try simp only [Act.put, List.setIfInBounds_toArray, List.set_cons_zero, List.set_cons_succ]
        refine wpPart_take (i := 3) (oi := { dst := some 52, op := Op.nilCheck (Operand.tmp 51), type := 0, pos := "ref.go:175", after := #[{ on := 2, ground := Ground.data }], guard := none }) (v := ?_) rfl (by kernel_rfl) (by kernel_rfl) (by kernel_rfl) (by kernel_rfl) (by kernel_rfl) (fun _ _ _ h => h) (Or.inl ⟨by rfl, ?_⟩) (by assumption) ?_
        rotate_left
        · intro w hSw; (try dsimp only at hSw); go_simp <;> with_reducible rfl
        try simp only [Act.put, List.setIfInBounds_toArray, List.set_cons_zero, List.set_cons_succ]
        refine wpPart_take (i := 4) (oi := { dst := some 53, op := Op.fieldAddr 61 (Operand.tmp 52) 3, type := 0, pos := "ref.go:175", after := #[{ on := 3, ground := Ground.data }], guard := none }) (v := ?_) rfl (by kernel_rfl) (by kernel_rfl) (by kernel_rfl) (by kernel_rfl) (by kernel_rfl) (fun _ _ _ h => h) (Or.inl ⟨by rfl, ?_⟩) (by assumption) ?_
        rotate_left
        · intro w hSw; (try dsimp only at hSw); go_simp <;> with_reducible rfl
        try simp only [Act.put, List.setIfInBounds_toArray, List.set_cons_zero, List.set_cons_succ]
        refine wpPart_take (i := 5) (oi := { dst := some 54, op := Op.load 51 (Operand.tmp 53), type := 51, pos := "ref.go:175", after := #[{ on := 4, ground := Ground.data }], guard := none }) (v := ?_) rfl (by kernel_rfl) (by kernel_rfl) (by kernel_rfl) (by kernel_rfl) (by kernel_rfl) (fun _ _ _ h => h) (Or.inl ⟨by rfl, ?_⟩) (by assumption) ?_
        rotate_left
        · intro w hSw; (try dsimp only at hSw); go_simp <;> with_reducible rfl
        try simp only [Act.put, List.setIfInBounds_toArray, List.set_cons_zero, List.set_cons_succ]
        refine wpPart_take (i := 7) (oi := { dst := some 56, op := Op.load 50 (Operand.tmp 4), type := 50, pos := "ref.go:175", after := #[], guard := none }) (v := ?_) rfl (by kernel_rfl) (by kernel_rfl) (by kernel_rfl) (by kernel_rfl) (by kernel_rfl) (fun _ _ _ h => h) (Or.inl ⟨by rfl, ?_⟩) (by assumption) ?_
        rotate_left
        · intro w hSw; (try dsimp only at hSw); go_simp <;> with_reducible rfl
        try simp only [Act.put, List.setIfInBounds_toArray, List.set_cons_zero, List.set_cons_succ]
        refine wpPart_ready (rs := [1, 8]) (by kernel_rfl) (by simp) ?_
        refine AllPart.cons (o := { dst := some 50, op := Op.buildSlice 51 0 #[], type := 51, pos := "ref.go:175", after := #[], guard := none }) rfl (by kernel_rfl) (fun K hK => ?_) ?_
        · skip
          have hsz : V2.heap.size ≤ u0.heap.size := hHeld.2.2.2.2.1.size
          go_simp
          refine hK.out _ _ ?_ (fun hHeld => ?_)
          · first | exact hS1 | exact GMid.alloc hHeld _
          clear hK K
          try simp only [Act.put, List.setIfInBounds_toArray, List.set_cons_zero, List.set_cons_succ]
          have HO : Hid ((u0.alloc (Obj.cells #[] 50)).ownsRow V2.heap.size 50 2 (.slice (some ⟨u0.heap.size, 0, none⟩) 0 0) 0 []) := World.ownsRow_made u0 #[] 0 hsz (by unfold maxLen; omega) rfl
          clear hsz
          generalize u0.heap.size = b1 at *
          generalize u0.alloc (Obj.cells #[] 50) = u1 at *
          refine wpPart_ready (rs := [6, 8]) (by kernel_rfl) (by simp) ?_
          refine AllPart.cons (o := { dst := some 55, op := Op.call { callee := Callee.builtin Builtin.append, args := #[Operand.tmp 50, Operand.tmp 54], argTypes := #[51, 51] }, type := 51, pos := "ref.go:175", after := #[{ on := 1, ground := Ground.data }, { on := 5, ground := Ground.data }], guard := none }) rfl (by kernel_rfl) (fun K hK => ?_) ?_
          · skip
            refine step_append_src (by rfl) _ _ 51 (by rfl) V2.heap.size 50 i0 (.agg #[.int .u64 0, .string ByteArray.empty]) 2 24 Try.underlying51 hii hz0 hz1 hz2 rfl (by omega) (.slice (some ⟨b1, 0, none⟩) 0 0) 0 [] (by rfl) HO.out (.slice A1 (s.out.length + j) k1) (s.out.length + j) (rflat (s.fillN j).out) (by rfl) (HSRC.out.below hHeld.2.2.2.2.1) (by unfold maxLen; omega) (by omega) hHeld.2.2.2.2.1.size ?_
            intro v1 u2 hown hgrow _
            have hS1 := GMid.grown hHeld HO.out hgrow
            simp only [Nat.zero_add, List.nil_append] at hown
            refine hK.out _ _ ?_ (fun hHeld => ?_)
            · first | exact hS1 | exact GMid.alloc hHeld _
            clear hK K
            try simp only [Act.put, List.setIfInBounds_toArray, List.set_cons_zero, List.set_cons_succ]
            have HO1 := Lib.hid hown
            clear HO
            have HO := Lib.hid HO1.out
            clear HO1
            clear hown hgrow hS1
            refine wpPart_ready (rs := [8]) (by kernel_rfl) (by simp) ?_
            refine AllPart.cons (o := { dst := some 57, op := Op.buildSlice 51 1 #[(0, Operand.tmp 56)], type := 51, pos := "ref.go:175", after := #[{ on := 7, ground := Ground.data }], guard := none }) rfl (by kernel_rfl) (fun K hK => ?_) AllPart.nil
            have hsz : V2.heap.size ≤ u2.heap.size := hHeld.2.2.2.2.1.size
            go_simp
            refine hK.out _ _ ?_ (fun hHeld => ?_)
            · first | exact hS1 | exact GMid.alloc hHeld _
            clear hK K
            try simp only [Act.put, List.setIfInBounds_toArray, List.set_cons_zero, List.set_cons_succ]
            have HB : Hid ((u2.alloc (Obj.cells #[.int .u64 ((s.last : Int) + j + 1), .string b] 50)).heap[u2.heap.size]? = some (Obj.cells #[.int .u64 ((s.last : Int) + j + 1), .string b] 50 (0, 0))) := blk_new _ _
            have HO2 := Lib.hid (HO.out.alloc (Obj.cells #[.int .u64 ((s.last : Int) + j + 1), .string b] 50))
            clear HO
            have HO := Lib.hid HO2.out
            clear HO2
            clear hsz
            generalize u2.heap.size = b8 at *
            generalize u2.alloc (Obj.cells #[.int .u64 ((s.last : Int) + j + 1), .string b] 50) = u3 at *
            refine wpPart_ready (rs := [9]) (by kernel_rfl) (by simp) ?_
            refine AllPart.cons (o := { dst := some 58, op := Op.call { callee := Callee.builtin Builtin.append, args := #[Operand.tmp 55, Operand.tmp 57], argTypes := #[51, 51] }, type := 51, pos := "ref.go:175", after := #[{ on := 6, ground := Ground.data }, { on := 8, ground := Ground.data }, { on := 6, ground := Ground.chain }], guard := none }) rfl (by kernel_rfl) (fun K hK => ?_) AllPart.nil
            refine step_append_src (by rfl) _ _ 51 (by rfl) V2.heap.size 50 i0 (.agg #[.int .u64 0, .string ByteArray.empty]) 2 24 Try.underlying51 hii hz0 hz1 hz2 rfl (by omega) v1 (s.out.length + j) (rflat (s.fillN j).out) (by rfl) HO.out (.slice (some ⟨b8, 0, none⟩) 1 1) 1 [.int .u64 ((s.last : Int) + j + 1), .string b] (by rfl) (SrcOk.block HB.out rfl (fun j u hu => by rw [Nat.zero_add]; simpa using hu) (by simp [Value.oneCell'])) (by unfold maxLen; omega) (by omega) hHeld.2.2.2.2.1.size ?_
            intro v2 u4 hown hgrow _
            have hS1 := GMid.grown hHeld HO.out hgrow
            obtain ⟨g2, c2, rfl, _, _⟩ := hown.form (by omega)
            have HO2 := Lib.hid hown
            refine hK.out _ _ ?_ (fun hHeld => ?_)
            · first | exact hS1 | exact GMid.alloc hHeld _
            clear hK K
            try simp only [Act.put, List.setIfInBounds_toArray, List.set_cons_zero, List.set_cons_succ]
            clear hown hgrow hS1
            refine wpPart_ready (rs := [10]) (by kernel_rfl) (by simp) ?_
            refine AllPart.cons (o := { dst := some 59, op := Op.nilCheck (Operand.tmp 49), type := 0, pos := "ref.go:175", after := #[{ on := 0, ground := Ground.data }, { on := 0, ground := Ground.phase }, { on := 1, ground := Ground.phase }, { on := 2, ground := Ground.phase }, { on := 3, ground := Ground.phase }, { on := 4, ground := Ground.phase }, { on := 5, ground := Ground.phase }, { on := 6, ground := Ground.phase }, { on := 7, ground := Ground.phase }, { on := 8, ground := Ground.phase }, { on := 9, ground := Ground.phase }], guard := none }) rfl (by kernel_rfl) (fun K hK => ?_) AllPart.nil
            go_simp
            refine hK.out _ _ ?_ (fun hHeld => ?_)
            · assumption
            clear hK K
            try simp only [Act.put, List.setIfInBounds_toArray, List.set_cons_zero, List.set_cons_succ]
            refine wpPart_take (i := 11) (oi := { dst := some 60, op := Op.fieldAddr 61 (Operand.tmp 59) 3, type := 0, pos := "ref.go:175", after := #[{ on := 10, ground := Ground.data }, { on := 0, ground := Ground.phase }, { on := 1, ground := Ground.phase }, { on := 2, ground := Ground.phase }, { on := 3, ground := Ground.phase }, { on := 4, ground := Ground.phase }, { on := 5, ground := Ground.phase }, { on := 6, ground := Ground.phase }, { on := 7, ground := Ground.phase }, { on := 8, ground := Ground.phase }, { on := 9, ground := Ground.phase }], guard := none }) (v := ?_) rfl (by kernel_rfl) (by kernel_rfl) (by kernel_rfl) (by kernel_rfl) (by kernel_rfl) (fun _ _ _ h => h) (Or.inl ⟨by rfl, ?_⟩) (by assumption) ?_
            rotate_left
            · intro w hSw; (try dsimp only at hSw); go_simp <;> with_reducible rfl
            try simp only [Act.put, List.setIfInBounds_toArray, List.set_cons_zero, List.set_cons_succ]
            refine wpPart_ready (rs := [12]) (by kernel_rfl) (by simp) ?_
            refine AllPart.last (o := { dst := none, op := Op.store 51 (Operand.tmp 60) (Operand.tmp 58), type := 0, pos := "ref.go:175", after := #[{ on := 11, ground := Ground.data }, { on := 9, ground := Ground.data }, { on := 9, ground := Ground.chain }, { on := 0, ground := Ground.phase }, { on := 1, ground := Ground.phase }, { on := 2, ground := Ground.phase }, { on := 3, ground := Ground.phase }, { on := 4, ground := Ground.phase }, { on := 5, ground := Ground.phase }, { on := 6, ground := Ground.phase }, { on := 7, ground := Ground.phase }, { on := 8, ground := Ground.phase }, { on := 9, ground := Ground.phase }], guard := none }) rfl (by kernel_rfl) (fun K hK => ?_) AllPart.nil
            have hc := hHeld.1
            have hf := hHeld.2.2.2.1
            have HW := Lib.hid hHeld
            go_simp
            refine hK.out _ _ ?_
            clear hK K
            try simp only [Act.put, List.setIfInBounds_toArray, List.set_cons_zero, List.set_cons_succ]
            clear hc hf
            refine wpPart_done (by kernel_rfl) ?_ _
            have HNX := Lib.hid (rgo_next HBR.out HWV2.out HS.out HM.out HR0.out HRV.out HM2.out (by rw [HOV1.out]; exact HB2.out) HW.out.2.2.2.2.1 HO2.out)
            have HB9 := (HW.out.2.2.2.2.1.block _ HW.out.2.2.2.2.2.1).trans HB2.out
            have HX9 : Hid ((u4.setCell ⟨R, 3, none⟩ (.slice (some ⟨g2, 0, none⟩) (s.out.length + j + 1) c2)).heap[xb]? = some (.cells #[.int .u64 ((s.last : Int) + j + 1), .string b] 50 (0, 0))) := blk_far ((HW.out.2.2.2.2.1.block _ HW.out.2.2.2.2.2.2).trans HX2.out) (blk_ne HX2.out HB2.out (by decide)) _
            clear hHeld HW HO2 HB9 HP HSRC HB2 HX2 HM2 HB HO
            generalize u4.setCell ⟨R, 3, none⟩ (.slice (some ⟨g2, 0, none⟩) (s.out.length + j + 1) c2) = V3 at *
            have x0 : V3.cell? ⟨xb, 0, none⟩ = some (.int .u64 ((s.last : Int) + j + 1)) := (blk_cell HX9.out 0).trans rfl
            have x1 : V3.cell? ⟨xb, 1, none⟩ = some (.string b) := (blk_cell HX9.out 1).trans rfl
            have HRW9 : Hid (RowOf (V3.alloc (.cells #[.int .u64 ((s.last : Int) + j + 1), .string b] 50)) 50 2 rv (numbered s.last (s.waits.take j)).length (rflat (numbered s.last (s.waits.take j)))) := RowOf.alloc HNX.out.2.2.1 _
            have HXS : Hid (SrcOk (V3.alloc (.cells #[.int .u64 ((s.last : Int) + j + 1), .string b] 50)) (.slice (some ⟨V3.heap.size, 0, none⟩) 1 1) 1 2 [.int .u64 ((s.last : Int) + j + 1), .string b]) := SrcOk.block (blk_new V3 _) rfl (fun j u hu => by rw [Nat.zero_add]; simpa using hu) (by simp [Value.oneCell'])
            go_wp2_with (at_builtin; refine wpList_append_row (by rfl) _ _ 51 (by rfl) i0 (.agg #[.int .u64 0, .string ByteArray.empty]) 24 Try.underlying51 hii hz0 hz1 hz2 (by rfl) (by omega) (by rfl) HRW9.out (rflat_one _) _ 1 [.int .u64 ((s.last : Int) + j + 1), .string b] (by rfl) HXS.out (by have := HRL.out; unfold maxLen; omega) (by have := HRL.out; omega) ?_)
            intro v9 w9 hrow hgrow hat
            have HE : Hid (RGo w R pr s (j + 1) v9 w9) := rgo_last HNX.out.1 HNX.out.2.1 HNX.out.2.2.1 HNX.out.2.2.2.1 HNX.out.2.2.2.2 hrow hgrow (by simpa using hat)
            clear hrow hgrow hat x0 x1 HRW9 HXS HNX HX9
            go_wp2
            go_roundg (s.goes - (j + 1))
            case measure => omega
            case rel => exact ⟨j + 1, v9, by omega, rfl, rfl, HE⟩
          refine AllPart.cons (o := { dst := some 57, op := Op.buildSlice 51 1 #[(0, Operand.tmp 56)], type := 51, pos := "ref.go:175", after := #[{ on := 7, ground := Ground.data }], guard := none }) rfl (by kernel_rfl) (fun K hK => ?_) ?_
          · skip
            have hsz : V2.heap.size ≤ u1.heap.size := hHeld.2.2.2.2.1.size
            go_simp
            refine hK.out _ _ ?_ (fun hHeld => ?_)
            · first | exact hS1 | exact GMid.alloc hHeld _
            clear hK K
            try simp only [Act.put, List.setIfInBounds_toArray, List.set_cons_zero, List.set_cons_succ]
            have HB : Hid ((u1.alloc (Obj.cells #[.int .u64 ((s.last : Int) + j + 1), .string b] 50)).heap[u1.heap.size]? = some (Obj.cells #[.int .u64 ((s.last : Int) + j + 1), .string b] 50 (0, 0))) := blk_new _ _
            have HNE : Hid (u1.heap.size ≠ b1) := by have := (HO.out.lt b1 rfl).2; show _ ≠ _; omega
            have HO2 := Lib.hid (HO.out.alloc (Obj.cells #[.int .u64 ((s.last : Int) + j + 1), .string b] 50))
            clear HO
            have HO := Lib.hid HO2.out
            clear HO2
            clear hsz
            generalize u1.heap.size = b8 at *
            generalize u1.alloc (Obj.cells #[.int .u64 ((s.last : Int) + j + 1), .string b] 50) = u2 at *
            refine wpPart_ready (rs := [6]) (by kernel_rfl) (by simp) ?_
            refine AllPart.cons (o := { dst := some 55, op := Op.call { callee := Callee.builtin Builtin.append, args := #[Operand.tmp 50, Operand.tmp 54], argTypes := #[51, 51] }, type := 51, pos := "ref.go:175", after := #[{ on := 1, ground := Ground.data }, { on := 5, ground := Ground.data }], guard := none }) rfl (by kernel_rfl) (fun K hK => ?_) AllPart.nil
            refine step_append_src (by rfl) _ _ 51 (by rfl) V2.heap.size 50 i0 (.agg #[.int .u64 0, .string ByteArray.empty]) 2 24 Try.underlying51 hii hz0 hz1 hz2 rfl (by omega) (.slice (some ⟨b1, 0, none⟩) 0 0) 0 [] (by rfl) HO.out (.slice A1 (s.out.length + j) k1) (s.out.length + j) (rflat (s.fillN j).out) (by rfl) (HSRC.out.below hHeld.2.2.2.2.1) (by unfold maxLen; omega) (by omega) hHeld.2.2.2.2.1.size ?_
            intro v1 u3 hown hgrow _
            have hS1 := GMid.grown hHeld HO.out hgrow
            simp only [Nat.zero_add, List.nil_append] at hown
            refine hK.out _ _ ?_ (fun hHeld => ?_)
            · first | exact hS1 | exact GMid.alloc hHeld _
            clear hK K
            try simp only [Act.put, List.setIfInBounds_toArray, List.set_cons_zero, List.set_cons_succ]
            have HB9 := Lib.hid (blk_grown HB.out hgrow (fun j hj => by cases hj; exact HNE.out))
            clear HB HNE
            have HB := Lib.hid HB9.out
            clear HB9
            have HO1 := Lib.hid hown
            clear HO
            have HO := Lib.hid HO1.out
            clear HO1
            clear hown hgrow hS1
            refine wpPart_ready (rs := [9]) (by kernel_rfl) (by simp) ?_
            refine AllPart.cons (o := { dst := some 58, op := Op.call { callee := Callee.builtin Builtin.append, args := #[Operand.tmp 55, Operand.tmp 57], argTypes := #[51, 51] }, type := 51, pos := "ref.go:175", after := #[{ on := 6, ground := Ground.data }, { on := 8, ground := Ground.data }, { on := 6, ground := Ground.chain }], guard := none }) rfl (by kernel_rfl) (fun K hK => ?_) AllPart.nil
            refine step_append_src (by rfl) _ _ 51 (by rfl) V2.heap.size 50 i0 (.agg #[.int .u64 0, .string ByteArray.empty]) 2 24 Try.underlying51 hii hz0 hz1 hz2 rfl (by omega) v1 (s.out.length + j) (rflat (s.fillN j).out) (by rfl) HO.out (.slice (some ⟨b8, 0, none⟩) 1 1) 1 [.int .u64 ((s.last : Int) + j + 1), .string b] (by rfl) (SrcOk.block HB.out rfl (fun j u hu => by rw [Nat.zero_add]; simpa using hu) (by simp [Value.oneCell'])) (by unfold maxLen; omega) (by omega) hHeld.2.2.2.2.1.size ?_
            intro v2 u4 hown hgrow _
            have hS1 := GMid.grown hHeld HO.out hgrow
            obtain ⟨g2, c2, rfl, _, _⟩ := hown.form (by omega)
            have HO2 := Lib.hid hown
            refine hK.out _ _ ?_ (fun hHeld => ?_)
            · first | exact hS1 | exact GMid.alloc hHeld _
            clear hK K
            try simp only [Act.put, List.setIfInBounds_toArray, List.set_cons_zero, List.set_cons_succ]
            clear hown hgrow hS1
            refine wpPart_ready (rs := [10]) (by kernel_rfl) (by simp) ?_
            refine AllPart.cons (o := { dst := some 59, op := Op.nilCheck (Operand.tmp 49), type := 0, pos := "ref.go:175", after := #[{ on := 0, ground := Ground.data }, { on := 0, ground := Ground.phase }, { on := 1, ground := Ground.phase }, { on := 2, ground := Ground.phase }, { on := 3, ground := Ground.phase }, { on := 4, ground := Ground.phase }, { on := 5, ground := Ground.phase }, { on := 6, ground := Ground.phase }, { on := 7, ground := Ground.phase }, { on := 8, ground := Ground.phase }, { on := 9, ground := Ground.phase }], guard := none }) rfl (by kernel_rfl) (fun K hK => ?_) AllPart.nil
            go_simp
            refine hK.out _ _ ?_ (fun hHeld => ?_)
            · assumption
            clear hK K
            try simp only [Act.put, List.setIfInBounds_toArray, List.set_cons_zero, List.set_cons_succ]
            refine wpPart_take (i := 11) (oi := { dst := some 60, op := Op.fieldAddr 61 (Operand.tmp 59) 3, type := 0, pos := "ref.go:175", after := #[{ on := 10, ground := Ground.data }, { on := 0, ground := Ground.phase }, { on := 1, ground := Ground.phase }, { on := 2, ground := Ground.phase }, { on := 3, ground := Ground.phase }, { on := 4, ground := Ground.phase }, { on := 5, ground := Ground.phase }, { on := 6, ground := Ground.phase }, { on := 7, ground := Ground.phase }, { on := 8, ground := Ground.phase }, { on := 9, ground := Ground.phase }], guard := none }) (v := ?_) rfl (by kernel_rfl) (by kernel_rfl) (by kernel_rfl) (by kernel_rfl) (by kernel_rfl) (fun _ _ _ h => h) (Or.inl ⟨by rfl, ?_⟩) (by assumption) ?_
            rotate_left
            · intro w hSw; (try dsimp only at hSw); go_simp <;> with_reducible rfl
            try simp only [Act.put, List.setIfInBounds_toArray, List.set_cons_zero, List.set_cons_succ]
            refine wpPart_ready (rs := [12]) (by kernel_rfl) (by simp) ?_
            refine AllPart.last (o := { dst := none, op := Op.store 51 (Operand.tmp 60) (Operand.tmp 58), type := 0, pos := "ref.go:175", after := #[{ on := 11, ground := Ground.data }, { on := 9, ground := Ground.data }, { on := 9, ground := Ground.chain }, { on := 0, ground := Ground.phase }, { on := 1, ground := Ground.phase }, { on := 2, ground := Ground.phase }, { on := 3, ground := Ground.phase }, { on := 4, ground := Ground.phase }, { on := 5, ground := Ground.phase }, { on := 6, ground := Ground.phase }, { on := 7, ground := Ground.phase }, { on := 8, ground := Ground.phase }, { on := 9, ground := Ground.phase }], guard := none }) rfl (by kernel_rfl) (fun K hK => ?_) AllPart.nil
            have hc := hHeld.1
            have hf := hHeld.2.2.2.1
            have HW := Lib.hid hHeld
            go_simp
            refine hK.out _ _ ?_
            clear hK K
            try simp only [Act.put, List.setIfInBounds_toArray, List.set_cons_zero, List.set_cons_succ]
            clear hc hf
            refine wpPart_done (by kernel_rfl) ?_ _
            have HNX := Lib.hid (rgo_next HBR.out HWV2.out HS.out HM.out HR0.out HRV.out HM2.out (by rw [HOV1.out]; exact HB2.out) HW.out.2.2.2.2.1 HO2.out)
            have HB9 := (HW.out.2.2.2.2.1.block _ HW.out.2.2.2.2.2.1).trans HB2.out
            have HX9 : Hid ((u4.setCell ⟨R, 3, none⟩ (.slice (some ⟨g2, 0, none⟩) (s.out.length + j + 1) c2)).heap[xb]? = some (.cells #[.int .u64 ((s.last : Int) + j + 1), .string b] 50 (0, 0))) := blk_far ((HW.out.2.2.2.2.1.block _ HW.out.2.2.2.2.2.2).trans HX2.out) (blk_ne HX2.out HB2.out (by decide)) _
            clear hHeld HW HO2 HB9 HP HSRC HB2 HX2 HM2 HB HO
            generalize u4.setCell ⟨R, 3, none⟩ (.slice (some ⟨g2, 0, none⟩) (s.out.length + j + 1) c2) = V3 at *
            have x0 : V3.cell? ⟨xb, 0, none⟩ = some (.int .u64 ((s.last : Int) + j + 1)) := (blk_cell HX9.out 0).trans rfl
            have x1 : V3.cell? ⟨xb, 1, none⟩ = some (.string b) := (blk_cell HX9.out 1).trans rfl
            have HRW9 : Hid (RowOf (V3.alloc (.cells #[.int .u64 ((s.last : Int) + j + 1), .string b] 50)) 50 2 rv (numbered s.last (s.waits.take j)).length (rflat (numbered s.last (s.waits.take j)))) := RowOf.alloc HNX.out.2.2.1 _
            have HXS : Hid (SrcOk (V3.alloc (.cells #[.int .u64 ((s.last : Int) + j + 1), .string b] 50)) (.slice (some ⟨V3.heap.size, 0, none⟩) 1 1) 1 2 [.int .u64 ((s.last : Int) + j + 1), .string b]) := SrcOk.block (blk_new V3 _) rfl (fun j u hu => by rw [Nat.zero_add]; simpa using hu) (by simp [Value.oneCell'])
            go_wp2_with (at_builtin; refine wpList_append_row (by rfl) _ _ 51 (by rfl) i0 (.agg #[.int .u64 0, .string ByteArray.empty]) 24 Try.underlying51 hii hz0 hz1 hz2 (by rfl) (by omega) (by rfl) HRW9.out (rflat_one _) _ 1 [.int .u64 ((s.last : Int) + j + 1), .string b] (by rfl) HXS.out (by have := HRL.out; unfold maxLen; omega) (by have := HRL.out; omega) ?_)
            intro v9 w9 hrow hgrow hat
            have HE : Hid (RGo w R pr s (j + 1) v9 w9) := rgo_last HNX.out.1 HNX.out.2.1 HNX.out.2.2.1 HNX.out.2.2.2.1 HNX.out.2.2.2.2 hrow hgrow (by simpa using hat)
            clear hrow hgrow hat x0 x1 HRW9 HXS HNX HX9
            go_wp2
            go_roundg (s.goes - (j + 1))
            case measure => omega
            case rel => exact ⟨j + 1, v9, by omega, rfl, rfl, HE⟩
          exact AllPart.nil
        refine AllPart.cons (o := { dst := some 57, op := Op.buildSlice 51 1 #[(0, Operand.tmp 56)], type := 51, pos := "ref.go:175", after := #[{ on := 7, ground := Ground.data }], guard := none }) rfl (by kernel_rfl) (fun K hK => ?_) ?_
        · skip
          have hsz : V2.heap.size ≤ u0.heap.size := hHeld.2.2.2.2.1.size
          go_simp
          refine hK.out _ _ ?_ (fun hHeld => ?_)
          · first | exact hS1 | exact GMid.alloc hHeld _
          clear hK K
          try simp only [Act.put, List.setIfInBounds_toArray, List.set_cons_zero, List.set_cons_succ]
          have HB : Hid ((u0.alloc (Obj.cells #[.int .u64 ((s.last : Int) + j + 1), .string b] 50)).heap[u0.heap.size]? = some (Obj.cells #[.int .u64 ((s.last : Int) + j + 1), .string b] 50 (0, 0))) := blk_new _ _
          clear hsz
          generalize u0.heap.size = b8 at *
          generalize u0.alloc (Obj.cells #[.int .u64 ((s.last : Int) + j + 1), .string b] 50) = u1 at *
          refine wpPart_ready (rs := [1]) (by kernel_rfl) (by simp) ?_
          refine AllPart.cons (o := { dst := some 50, op := Op.buildSlice 51 0 #[], type := 51, pos := "ref.go:175", after := #[], guard := none }) rfl (by kernel_rfl) (fun K hK => ?_) AllPart.nil
          have hsz : V2.heap.size ≤ u1.heap.size := hHeld.2.2.2.2.1.size
          go_simp
          refine hK.out _ _ ?_ (fun hHeld => ?_)
          · first | exact hS1 | exact GMid.alloc hHeld _
          clear hK K
          try simp only [Act.put, List.setIfInBounds_toArray, List.set_cons_zero, List.set_cons_succ]
          have HO : Hid ((u1.alloc (Obj.cells #[] 50)).ownsRow V2.heap.size 50 2 (.slice (some ⟨u1.heap.size, 0, none⟩) 0 0) 0 []) := World.ownsRow_made u1 #[] 0 hsz (by unfold maxLen; omega) rfl
          have HB9 := Lib.hid (blk_alloc HB.out (Obj.cells #[] 50))
          have HNE : Hid (b8 ≠ u1.heap.size) := by have := blk_lt HB.out; show _ ≠ _; omega
          clear HB
          have HB := Lib.hid HB9.out
          clear HB9
          clear hsz
          generalize u1.heap.size = b1 at *
          generalize u1.alloc (Obj.cells #[] 50) = u2 at *
          refine wpPart_ready (rs := [6]) (by kernel_rfl) (by simp) ?_
          refine AllPart.cons (o := { dst := some 55, op := Op.call { callee := Callee.builtin Builtin.append, args := #[Operand.tmp 50, Operand.tmp 54], argTypes := #[51, 51] }, type := 51, pos := "ref.go:175", after := #[{ on := 1, ground := Ground.data }, { on := 5, ground := Ground.data }], guard := none }) rfl (by kernel_rfl) (fun K hK => ?_) AllPart.nil
          refine step_append_src (by rfl) _ _ 51 (by rfl) V2.heap.size 50 i0 (.agg #[.int .u64 0, .string ByteArray.empty]) 2 24 Try.underlying51 hii hz0 hz1 hz2 rfl (by omega) (.slice (some ⟨b1, 0, none⟩) 0 0) 0 [] (by rfl) HO.out (.slice A1 (s.out.length + j) k1) (s.out.length + j) (rflat (s.fillN j).out) (by rfl) (HSRC.out.below hHeld.2.2.2.2.1) (by unfold maxLen; omega) (by omega) hHeld.2.2.2.2.1.size ?_
          intro v1 u3 hown hgrow _
          have hS1 := GMid.grown hHeld HO.out hgrow
          simp only [Nat.zero_add, List.nil_append] at hown
          refine hK.out _ _ ?_ (fun hHeld => ?_)
          · first | exact hS1 | exact GMid.alloc hHeld _
          clear hK K
          try simp only [Act.put, List.setIfInBounds_toArray, List.set_cons_zero, List.set_cons_succ]
          have HB9 := Lib.hid (blk_grown HB.out hgrow (fun j hj => by cases hj; exact HNE.out))
          clear HB HNE
          have HB := Lib.hid HB9.out
          clear HB9
          have HO1 := Lib.hid hown
          clear HO
          have HO := Lib.hid HO1.out
          clear HO1
          clear hown hgrow hS1
          refine wpPart_ready (rs := [9]) (by kernel_rfl) (by simp) ?_
          refine AllPart.cons (o := { dst := some 58, op := Op.call { callee := Callee.builtin Builtin.append, args := #[Operand.tmp 55, Operand.tmp 57], argTypes := #[51, 51] }, type := 51, pos := "ref.go:175", after := #[{ on := 6, ground := Ground.data }, { on := 8, ground := Ground.data }, { on := 6, ground := Ground.chain }], guard := none }) rfl (by kernel_rfl) (fun K hK => ?_) AllPart.nil
          refine step_append_src (by rfl) _ _ 51 (by rfl) V2.heap.size 50 i0 (.agg #[.int .u64 0, .string ByteArray.empty]) 2 24 Try.underlying51 hii hz0 hz1 hz2 rfl (by omega) v1 (s.out.length + j) (rflat (s.fillN j).out) (by rfl) HO.out (.slice (some ⟨b8, 0, none⟩) 1 1) 1 [.int .u64 ((s.last : Int) + j + 1), .string b] (by rfl) (SrcOk.block HB.out rfl (fun j u hu => by rw [Nat.zero_add]; simpa using hu) (by simp [Value.oneCell'])) (by unfold maxLen; omega) (by omega) hHeld.2.2.2.2.1.size ?_
          intro v2 u4 hown hgrow _
          have hS1 := GMid.grown hHeld HO.out hgrow
          obtain ⟨g2, c2, rfl, _, _⟩ := hown.form (by omega)
          have HO2 := Lib.hid hown
          refine hK.out _ _ ?_ (fun hHeld => ?_)
          · first | exact hS1 | exact GMid.alloc hHeld _
          clear hK K
          try simp only [Act.put, List.setIfInBounds_toArray, List.set_cons_zero, List.set_cons_succ]
          clear hown hgrow hS1
          refine wpPart_ready (rs := [10]) (by kernel_rfl) (by simp) ?_
          refine AllPart.cons (o := { dst := some 59, op := Op.nilCheck (Operand.tmp 49), type := 0, pos := "ref.go:175", after := #[{ on := 0, ground := Ground.data }, { on := 0, ground := Ground.phase }, { on := 1, ground := Ground.phase }, { on := 2, ground := Ground.phase }, { on := 3, ground := Ground.phase }, { on := 4, ground := Ground.phase }, { on := 5, ground := Ground.phase }, { on := 6, ground := Ground.phase }, { on := 7, ground := Ground.phase }, { on := 8, ground := Ground.phase }, { on := 9, ground := Ground.phase }], guard := none }) rfl (by kernel_rfl) (fun K hK => ?_) AllPart.nil
          go_simp
          refine hK.out _ _ ?_ (fun hHeld => ?_)
          · assumption
          clear hK K
          try simp only [Act.put, List.setIfInBounds_toArray, List.set_cons_zero, List.set_cons_succ]
          refine wpPart_take (i := 11) (oi := { dst := some 60, op := Op.fieldAddr 61 (Operand.tmp 59) 3, type := 0, pos := "ref.go:175", after := #[{ on := 10, ground := Ground.data }, { on := 0, ground := Ground.phase }, { on := 1, ground := Ground.phase }, { on := 2, ground := Ground.phase }, { on := 3, ground := Ground.phase }, { on := 4, ground := Ground.phase }, { on := 5, ground := Ground.phase }, { on := 6, ground := Ground.phase }, { on := 7, ground := Ground.phase }, { on := 8, ground := Ground.phase }, { on := 9, ground := Ground.phase }], guard := none }) (v := ?_) rfl (by kernel_rfl) (by kernel_rfl) (by kernel_rfl) (by kernel_rfl) (by kernel_rfl) (fun _ _ _ h => h) (Or.inl ⟨by rfl, ?_⟩) (by assumption) ?_
          rotate_left
          · intro w hSw; (try dsimp only at hSw); go_simp <;> with_reducible rfl
          try simp only [Act.put, List.setIfInBounds_toArray, List.set_cons_zero, List.set_cons_succ]
          refine wpPart_ready (rs := [12]) (by kernel_rfl) (by simp) ?_
          refine AllPart.last (o := { dst := none, op := Op.store 51 (Operand.tmp 60) (Operand.tmp 58), type := 0, pos := "ref.go:175", after := #[{ on := 11, ground := Ground.data }, { on := 9, ground := Ground.data }, { on := 9, ground := Ground.chain }, { on := 0, ground := Ground.phase }, { on := 1, ground := Ground.phase }, { on := 2, ground := Ground.phase }, { on := 3, ground := Ground.phase }, { on := 4, ground := Ground.phase }, { on := 5, ground := Ground.phase }, { on := 6, ground := Ground.phase }, { on := 7, ground := Ground.phase }, { on := 8, ground := Ground.phase }, { on := 9, ground := Ground.phase }], guard := none }) rfl (by kernel_rfl) (fun K hK => ?_) AllPart.nil
          have hc := hHeld.1
          have hf := hHeld.2.2.2.1
          have HW := Lib.hid hHeld
          go_simp
          refine hK.out _ _ ?_
          clear hK K
          try simp only [Act.put, List.setIfInBounds_toArray, List.set_cons_zero, List.set_cons_succ]
          clear hc hf
          refine wpPart_done (by kernel_rfl) ?_ _
          have HNX := Lib.hid (rgo_next HBR.out HWV2.out HS.out HM.out HR0.out HRV.out HM2.out (by rw [HOV1.out]; exact HB2.out) HW.out.2.2.2.2.1 HO2.out)
          have HB9 := (HW.out.2.2.2.2.1.block _ HW.out.2.2.2.2.2.1).trans HB2.out
          have HX9 : Hid ((u4.setCell ⟨R, 3, none⟩ (.slice (some ⟨g2, 0, none⟩) (s.out.length + j + 1) c2)).heap[xb]? = some (.cells #[.int .u64 ((s.last : Int) + j + 1), .string b] 50 (0, 0))) := blk_far ((HW.out.2.2.2.2.1.block _ HW.out.2.2.2.2.2.2).trans HX2.out) (blk_ne HX2.out HB2.out (by decide)) _
          clear hHeld HW HO2 HB9 HP HSRC HB2 HX2 HM2 HB HO
          generalize u4.setCell ⟨R, 3, none⟩ (.slice (some ⟨g2, 0, none⟩) (s.out.length + j + 1) c2) = V3 at *
          have x0 : V3.cell? ⟨xb, 0, none⟩ = some (.int .u64 ((s.last : Int) + j + 1)) := (blk_cell HX9.out 0).trans rfl
          have x1 : V3.cell? ⟨xb, 1, none⟩ = some (.string b) := (blk_cell HX9.out 1).trans rfl
          have HRW9 : Hid (RowOf (V3.alloc (.cells #[.int .u64 ((s.last : Int) + j + 1), .string b] 50)) 50 2 rv (numbered s.last (s.waits.take j)).length (rflat (numbered s.last (s.waits.take j)))) := RowOf.alloc HNX.out.2.2.1 _
          have HXS : Hid (SrcOk (V3.alloc (.cells #[.int .u64 ((s.last : Int) + j + 1), .string b] 50)) (.slice (some ⟨V3.heap.size, 0, none⟩) 1 1) 1 2 [.int .u64 ((s.last : Int) + j + 1), .string b]) := SrcOk.block (blk_new V3 _) rfl (fun j u hu => by rw [Nat.zero_add]; simpa using hu) (by simp [Value.oneCell'])
          go_wp2_with (at_builtin; refine wpList_append_row (by rfl) _ _ 51 (by rfl) i0 (.agg #[.int .u64 0, .string ByteArray.empty]) 24 Try.underlying51 hii hz0 hz1 hz2 (by rfl) (by omega) (by rfl) HRW9.out (rflat_one _) _ 1 [.int .u64 ((s.last : Int) + j + 1), .string b] (by rfl) HXS.out (by have := HRL.out; unfold maxLen; omega) (by have := HRL.out; omega) ?_)
          intro v9 w9 hrow hgrow hat
          have HE : Hid (RGo w R pr s (j + 1) v9 w9) := rgo_last HNX.out.1 HNX.out.2.1 HNX.out.2.2.1 HNX.out.2.2.2.1 HNX.out.2.2.2.2 hrow hgrow (by simpa using hat)
          clear hrow hgrow hat x0 x1 HRW9 HXS HNX HX9
          go_wp2
          go_roundg (s.goes - (j + 1))
          case measure => omega
          case rel => exact ⟨j + 1, v9, by omega, rfl, rfl, HE⟩
        exact AllPart.nil
      · skip
        go_wp2_with fail
        have HB2 : Hid ((V1.setCell ⟨R, 4, none⟩ (.slice (some ⟨rb, ro + 1, none⟩) r.length (cz + 1))).heap[R]? = some (.cells #[.int .i64 s.win, .int .i64 s.que, .pointer (some ⟨pr, 0, none⟩), .slice A1 (s.out.length + j) k1, .slice (some ⟨rb, if (cz + 1) = 0 then ro else ro + 1, none⟩) r.length (cz + 1), .int .u64 ((s.last : Int) + j + 1)] 61 (0, 0))) := (blk_set HB1.out 4 _).trans rfl
        have HX2 : Hid ((V1.setCell ⟨R, 4, none⟩ (.slice (some ⟨rb, ro + 1, none⟩) r.length (cz + 1))).heap[xb]? = some (.cells #[.int .u64 ((s.last : Int) + j + 1), .string b] 50 (0, 0))) := blk_far HX1.out (blk_ne HX1.out HB1.out (by decide)) _
        have HM2 : Hid (Mod (· = R) wr (V1.setCell ⟨R, 4, none⟩ (.slice (some ⟨rb, ro + 1, none⟩) r.length (cz + 1)))) := HM1.out.set (fun _ => rfl) _
        clear d4 z4 HX1 HB1 HM1
        generalize V1.setCell ⟨R, 4, none⟩ (.slice (some ⟨rb, ro + 1, none⟩) r.length (cz + 1)) = V2 at *
        have HP : Hid (GMid V2 R xb (.slice A1 (s.out.length + j) k1) ((s.last : Int) + j + 1) b V2.drew) := ⟨(blk_cell HB2.out 3).trans rfl, (blk_cell HX2.out 0).trans rfl, (blk_cell HX2.out 1).trans rfl, blk_frozen HB2.out 3, (Below.refl _ _).drew, blk_lt HB2.out, blk_lt HX2.out⟩
        have HSRC : Hid (SrcOk V2 (.slice A1 (s.out.length + j) k1) (s.out.length + j) 2 (rflat (s.fillN j).out)) := by
          have h := HROW.out
          rw [HOV1.out] at h
          have hk : KeepT [50] wr V2 := KeepT.mod HM2.out fun k cs t hk e => by
            subst e
            rw [HTOP.out] at hk
            cases hk
            decide
          exact RowOf.src (RowOf.keepT h hk (by decide)) (rflat_one _)
        refine wp_region_part (S := fun w' => w'.cell? ⟨R, 3, none⟩ = some (.slice A1 (s.out.length + j) k1) ∧ w'.cell? ⟨xb, 0, none⟩ = some (.int .u64 ((s.last : Int) + j + 1)) ∧ w'.cell? ⟨xb, 1, none⟩ = some (.string b) ∧ w'.frozen? ⟨R, 3, none⟩ = false ∧ Below V2.heap.size V2 w' ∧ (R < V2.heap.size ∧ xb < V2.heap.size)) [12] (by kernel_rfl) ?_ (fun hHeld => ?_)
        · exact HP.out
        generalize V2.drew = u0 at *
        refine wpPart_take (i := 0) (oi := { dst := some 49, op := Op.move (Operand.tmp 0), type := 53, pos := "ref.go:175", after := #[], guard := none }) (v := ?_) rfl (by kernel_rfl) (by kernel_rfl) (by kernel_rfl) (by kernel_rfl) (by kernel_rfl) (fun _ _ _ h => h) (Or.inl ⟨by rfl, ?_⟩) (by assumption) ?_
        rotate_left
        · intro w hSw; (try dsimp only at hSw); go_simp <;> with_reducible rfl
        try simp only [Act.put, List.setIfInBounds_toArray, List.set_cons_zero, List.set_cons_succ]
        refine wpPart_take (i := 2) (oi := { dst := some 51, op := Op.move (Operand.tmp 0), type := 53, pos := "ref.go:175", after := #[], guard := none }) (v := ?_) rfl (by kernel_rfl) (by kernel_rfl) (by kernel_rfl) (by kernel_rfl) (by kernel_rfl) (fun _ _ _ h => h) (Or.inl ⟨by rfl, ?_⟩) (by assumption) ?_
        rotate_left
        · intro w hSw; (try dsimp only at hSw); go_simp <;> with_reducible rfl
        try simp only [Act.put, List.setIfInBounds_toArray, List.set_cons_zero, List.set_cons_succ]
        refine wpPart_take (i := 3) (oi := { dst := some 52, op := Op.nilCheck (Operand.tmp 51), type := 0, pos := "ref.go:175", after := #[{ on := 2, ground := Ground.data }], guard := none }) (v := ?_) rfl (by kernel_rfl) (by kernel_rfl) (by kernel_rfl) (by kernel_rfl) (by kernel_rfl) (fun _ _ _ h => h) (Or.inl ⟨by rfl, ?_⟩) (by assumption) ?_
        rotate_left
        · intro w hSw; (try dsimp only at hSw); go_simp <;> with_reducible rfl
        try simp only [Act.put, List.setIfInBounds_toArray, List.set_cons_zero, List.set_cons_succ]
        refine wpPart_take (i := 4) (oi := { dst := some 53, op := Op.fieldAddr 61 (Operand.tmp 52) 3, type := 0, pos := "ref.go:175", after := #[{ on := 3, ground := Ground.data }], guard := none }) (v := ?_) rfl (by kernel_rfl) (by kernel_rfl) (by kernel_rfl) (by kernel_rfl) (by kernel_rfl) (fun _ _ _ h => h) (Or.inl ⟨by rfl, ?_⟩) (by assumption) ?_
        rotate_left
        · intro w hSw; (try dsimp only at hSw); go_simp <;> with_reducible rfl
        try simp only [Act.put, List.setIfInBounds_toArray, List.set_cons_zero, List.set_cons_succ]
        refine wpPart_take (i := 5) (oi := { dst := some 54, op := Op.load 51 (Operand.tmp 53), type := 51, pos := "ref.go:175", after := #[{ on := 4, ground := Ground.data }], guard := none }) (v := ?_) rfl (by kernel_rfl) (by kernel_rfl) (by kernel_rfl) (by kernel_rfl) (by kernel_rfl) (fun _ _ _ h => h) (Or.inl ⟨by rfl, ?_⟩) (by assumption) ?_
        rotate_left
        · intro w hSw; (try dsimp only at hSw); go_simp <;> with_reducible rfl
        try simp only [Act.put, List.setIfInBounds_toArray, List.set_cons_zero, List.set_cons_succ]
        refine wpPart_take (i := 7) (oi := { dst := some 56, op := Op.load 50 (Operand.tmp 4), type := 50, pos := "ref.go:175", after := #[], guard := none }) (v := ?_) rfl (by kernel_rfl) (by kernel_rfl) (by kernel_rfl) (by kernel_rfl) (by kernel_rfl) (fun _ _ _ h => h) (Or.inl ⟨by rfl, ?_⟩) (by assumption) ?_
        rotate_left
        · intro w hSw; (try dsimp only at hSw); go_simp <;> with_reducible rfl
        try simp only [Act.put, List.setIfInBounds_toArray, List.set_cons_zero, List.set_cons_succ]
        refine wpPart_ready (rs := [1, 8]) (by kernel_rfl) (by simp) ?_
        refine AllPart.cons (o := { dst := some 50, op := Op.buildSlice 51 0 #[], type := 51, pos := "ref.go:175", after := #[], guard := none }) rfl (by kernel_rfl) (fun K hK => ?_) ?_
        · skip
          have hsz : V2.heap.size ≤ u0.heap.size := hHeld.2.2.2.2.1.size
          go_simp
          refine hK.out _ _ ?_ (fun hHeld => ?_)
          · first | exact hS1 | exact GMid.alloc hHeld _
          clear hK K
          try simp only [Act.put, List.setIfInBounds_toArray, List.set_cons_zero, List.set_cons_succ]
          have HO : Hid ((u0.alloc (Obj.cells #[] 50)).ownsRow V2.heap.size 50 2 (.slice (some ⟨u0.heap.size, 0, none⟩) 0 0) 0 []) := World.ownsRow_made u0 #[] 0 hsz (by unfold maxLen; omega) rfl
          clear hsz
          generalize u0.heap.size = b1 at *
          generalize u0.alloc (Obj.cells #[] 50) = u1 at *
          refine wpPart_ready (rs := [6, 8]) (by kernel_rfl) (by simp) ?_
          refine AllPart.cons (o := { dst := some 55, op := Op.call { callee := Callee.builtin Builtin.append, args := #[Operand.tmp 50, Operand.tmp 54], argTypes := #[51, 51] }, type := 51, pos := "ref.go:175", after := #[{ on := 1, ground := Ground.data }, { on := 5, ground := Ground.data }], guard := none }) rfl (by kernel_rfl) (fun K hK => ?_) ?_
          · skip
            refine step_append_src (by rfl) _ _ 51 (by rfl) V2.heap.size 50 i0 (.agg #[.int .u64 0, .string ByteArray.empty]) 2 24 Try.underlying51 hii hz0 hz1 hz2 rfl (by omega) (.slice (some ⟨b1, 0, none⟩) 0 0) 0 [] (by rfl) HO.out (.slice A1 (s.out.length + j) k1) (s.out.length + j) (rflat (s.fillN j).out) (by rfl) (HSRC.out.below hHeld.2.2.2.2.1) (by unfold maxLen; omega) (by omega) hHeld.2.2.2.2.1.size ?_
            intro v1 u2 hown hgrow _
            have hS1 := GMid.grown hHeld HO.out hgrow
            simp only [Nat.zero_add, List.nil_append] at hown
            refine hK.out _ _ ?_ (fun hHeld => ?_)
            · first | exact hS1 | exact GMid.alloc hHeld _
            clear hK K
            try simp only [Act.put, List.setIfInBounds_toArray, List.set_cons_zero, List.set_cons_succ]
            have HO1 := Lib.hid hown
            clear HO
            have HO := Lib.hid HO1.out
            clear HO1
            clear hown hgrow hS1
            refine wpPart_ready (rs := [8]) (by kernel_rfl) (by simp) ?_
            refine AllPart.cons (o := { dst := some 57, op := Op.buildSlice 51 1 #[(0, Operand.tmp 56)], type := 51, pos := "ref.go:175", after := #[{ on := 7, ground := Ground.data }], guard := none }) rfl (by kernel_rfl) (fun K hK => ?_) AllPart.nil
            have hsz : V2.heap.size ≤ u2.heap.size := hHeld.2.2.2.2.1.size
            go_simp
            refine hK.out _ _ ?_ (fun hHeld => ?_)
            · first | exact hS1 | exact GMid.alloc hHeld _
            clear hK K
            try simp only [Act.put, List.setIfInBounds_toArray, List.set_cons_zero, List.set_cons_succ]
            have HB : Hid ((u2.alloc (Obj.cells #[.int .u64 ((s.last : Int) + j + 1), .string b] 50)).heap[u2.heap.size]? = some (Obj.cells #[.int .u64 ((s.last : Int) + j + 1), .string b] 50 (0, 0))) := blk_new _ _
            have HO2 := Lib.hid (HO.out.alloc (Obj.cells #[.int .u64 ((s.last : Int) + j + 1), .string b] 50))
            clear HO
            have HO := Lib.hid HO2.out
            clear HO2
            clear hsz
            generalize u2.heap.size = b8 at *
            generalize u2.alloc (Obj.cells #[.int .u64 ((s.last : Int) + j + 1), .string b] 50) = u3 at *
            refine wpPart_ready (rs := [9]) (by kernel_rfl) (by simp) ?_
            refine AllPart.cons (o := { dst := some 58, op := Op.call { callee := Callee.builtin Builtin.append, args := #[Operand.tmp 55, Operand.tmp 57], argTypes := #[51, 51] }, type := 51, pos := "ref.go:175", after := #[{ on := 6, ground := Ground.data }, { on := 8, ground := Ground.data }, { on := 6, ground := Ground.chain }], guard := none }) rfl (by kernel_rfl) (fun K hK => ?_) AllPart.nil
            refine step_append_src (by rfl) _ _ 51 (by rfl) V2.heap.size 50 i0 (.agg #[.int .u64 0, .string ByteArray.empty]) 2 24 Try.underlying51 hii hz0 hz1 hz2 rfl (by omega) v1 (s.out.length + j) (rflat (s.fillN j).out) (by rfl) HO.out (.slice (some ⟨b8, 0, none⟩) 1 1) 1 [.int .u64 ((s.last : Int) + j + 1), .string b] (by rfl) (SrcOk.block HB.out rfl (fun j u hu => by rw [Nat.zero_add]; simpa using hu) (by simp [Value.oneCell'])) (by unfold maxLen; omega) (by omega) hHeld.2.2.2.2.1.size ?_
            intro v2 u4 hown hgrow _
            have hS1 := GMid.grown hHeld HO.out hgrow
            obtain ⟨g2, c2, rfl, _, _⟩ := hown.form (by omega)
            have HO2 := Lib.hid hown
            refine hK.out _ _ ?_ (fun hHeld => ?_)
            · first | exact hS1 | exact GMid.alloc hHeld _
            clear hK K
            try simp only [Act.put, List.setIfInBounds_toArray, List.set_cons_zero, List.set_cons_succ]
            clear hown hgrow hS1
            refine wpPart_ready (rs := [10]) (by kernel_rfl) (by simp) ?_
            refine AllPart.cons (o := { dst := some 59, op := Op.nilCheck (Operand.tmp 49), type := 0, pos := "ref.go:175", after := #[{ on := 0, ground := Ground.data }, { on := 0, ground := Ground.phase }, { on := 1, ground := Ground.phase }, { on := 2, ground := Ground.phase }, { on := 3, ground := Ground.phase }, { on := 4, ground := Ground.phase }, { on := 5, ground := Ground.phase }, { on := 6, ground := Ground.phase }, { on := 7, ground := Ground.phase }, { on := 8, ground := Ground.phase }, { on := 9, ground := Ground.phase }], guard := none }) rfl (by kernel_rfl) (fun K hK => ?_) AllPart.nil
            go_simp
            refine hK.out _ _ ?_ (fun hHeld => ?_)
            · assumption
            clear hK K
            try simp only [Act.put, List.setIfInBounds_toArray, List.set_cons_zero, List.set_cons_succ]
            refine wpPart_take (i := 11) (oi := { dst := some 60, op := Op.fieldAddr 61 (Operand.tmp 59) 3, type := 0, pos := "ref.go:175", after := #[{ on := 10, ground := Ground.data }, { on := 0, ground := Ground.phase }, { on := 1, ground := Ground.phase }, { on := 2, ground := Ground.phase }, { on := 3, ground := Ground.phase }, { on := 4, ground := Ground.phase }, { on := 5, ground := Ground.phase }, { on := 6, ground := Ground.phase }, { on := 7, ground := Ground.phase }, { on := 8, ground := Ground.phase }, { on := 9, ground := Ground.phase }], guard := none }) (v := ?_) rfl (by kernel_rfl) (by kernel_rfl) (by kernel_rfl) (by kernel_rfl) (by kernel_rfl) (fun _ _ _ h => h) (Or.inl ⟨by rfl, ?_⟩) (by assumption) ?_
            rotate_left
            · intro w hSw; (try dsimp only at hSw); go_simp <;> with_reducible rfl
            try simp only [Act.put, List.setIfInBounds_toArray, List.set_cons_zero, List.set_cons_succ]
            refine wpPart_ready (rs := [12]) (by kernel_rfl) (by simp) ?_
            refine AllPart.last (o := { dst := none, op := Op.store 51 (Operand.tmp 60) (Operand.tmp 58), type := 0, pos := "ref.go:175", after := #[{ on := 11, ground := Ground.data }, { on := 9, ground := Ground.data }, { on := 9, ground := Ground.chain }, { on := 0, ground := Ground.phase }, { on := 1, ground := Ground.phase }, { on := 2, ground := Ground.phase }, { on := 3, ground := Ground.phase }, { on := 4, ground := Ground.phase }, { on := 5, ground := Ground.phase }, { on := 6, ground := Ground.phase }, { on := 7, ground := Ground.phase }, { on := 8, ground := Ground.phase }, { on := 9, ground := Ground.phase }], guard := none }) rfl (by kernel_rfl) (fun K hK => ?_) AllPart.nil
            have hc := hHeld.1
            have hf := hHeld.2.2.2.1
            have HW := Lib.hid hHeld
            go_simp
            refine hK.out _ _ ?_
            clear hK K
            try simp only [Act.put, List.setIfInBounds_toArray, List.set_cons_zero, List.set_cons_succ]
            clear hc hf
            refine wpPart_done (by kernel_rfl) ?_ _
            have HNX := Lib.hid (rgo_next HBR.out HWV2.out HS.out HM.out HR0.out HRV.out HM2.out (by rw [HOV1.out]; exact HB2.out) HW.out.2.2.2.2.1 HO2.out)
            have HB9 := (HW.out.2.2.2.2.1.block _ HW.out.2.2.2.2.2.1).trans HB2.out
            have HX9 : Hid ((u4.setCell ⟨R, 3, none⟩ (.slice (some ⟨g2, 0, none⟩) (s.out.length + j + 1) c2)).heap[xb]? = some (.cells #[.int .u64 ((s.last : Int) + j + 1), .string b] 50 (0, 0))) := blk_far ((HW.out.2.2.2.2.1.block _ HW.out.2.2.2.2.2.2).trans HX2.out) (blk_ne HX2.out HB2.out (by decide)) _
            clear hHeld HW HO2 HB9 HP HSRC HB2 HX2 HM2 HB HO
            generalize u4.setCell ⟨R, 3, none⟩ (.slice (some ⟨g2, 0, none⟩) (s.out.length + j + 1) c2) = V3 at *
            have x0 : V3.cell? ⟨xb, 0, none⟩ = some (.int .u64 ((s.last : Int) + j + 1)) := (blk_cell HX9.out 0).trans rfl
            have x1 : V3.cell? ⟨xb, 1, none⟩ = some (.string b) := (blk_cell HX9.out 1).trans rfl
            have HRW9 : Hid (RowOf (V3.alloc (.cells #[.int .u64 ((s.last : Int) + j + 1), .string b] 50)) 50 2 rv (numbered s.last (s.waits.take j)).length (rflat (numbered s.last (s.waits.take j)))) := RowOf.alloc HNX.out.2.2.1 _
            have HXS : Hid (SrcOk (V3.alloc (.cells #[.int .u64 ((s.last : Int) + j + 1), .string b] 50)) (.slice (some ⟨V3.heap.size, 0, none⟩) 1 1) 1 2 [.int .u64 ((s.last : Int) + j + 1), .string b]) := SrcOk.block (blk_new V3 _) rfl (fun j u hu => by rw [Nat.zero_add]; simpa using hu) (by simp [Value.oneCell'])
            go_wp2_with (at_builtin; refine wpList_append_row (by rfl) _ _ 51 (by rfl) i0 (.agg #[.int .u64 0, .string ByteArray.empty]) 24 Try.underlying51 hii hz0 hz1 hz2 (by rfl) (by omega) (by rfl) HRW9.out (rflat_one _) _ 1 [.int .u64 ((s.last : Int) + j + 1), .string b] (by rfl) HXS.out (by have := HRL.out; unfold maxLen; omega) (by have := HRL.out; omega) ?_)
            intro v9 w9 hrow hgrow hat
            have HE : Hid (RGo w R pr s (j + 1) v9 w9) := rgo_last HNX.out.1 HNX.out.2.1 HNX.out.2.2.1 HNX.out.2.2.2.1 HNX.out.2.2.2.2 hrow hgrow (by simpa using hat)
            clear hrow hgrow hat x0 x1 HRW9 HXS HNX HX9
            go_wp2
            go_roundg (s.goes - (j + 1))
            case measure => omega
            case rel => exact ⟨j + 1, v9, by omega, rfl, rfl, HE⟩
          refine AllPart.cons (o := { dst := some 57, op := Op.buildSlice 51 1 #[(0, Operand.tmp 56)], type := 51, pos := "ref.go:175", after := #[{ on := 7, ground := Ground.data }], guard := none }) rfl (by kernel_rfl) (fun K hK => ?_) ?_
          · skip
            have hsz : V2.heap.size ≤ u1.heap.size := hHeld.2.2.2.2.1.size
            go_simp
            refine hK.out _ _ ?_ (fun hHeld => ?_)
            · first | exact hS1 | exact GMid.alloc hHeld _
            clear hK K
            try simp only [Act.put, List.setIfInBounds_toArray, List.set_cons_zero, List.set_cons_succ]
            have HB : Hid ((u1.alloc (Obj.cells #[.int .u64 ((s.last : Int) + j + 1), .string b] 50)).heap[u1.heap.size]? = some (Obj.cells #[.int .u64 ((s.last : Int) + j + 1), .string b] 50 (0, 0))) := blk_new _ _
            have HNE : Hid (u1.heap.size ≠ b1) := by have := (HO.out.lt b1 rfl).2; show _ ≠ _; omega
            have HO2 := Lib.hid (HO.out.alloc (Obj.cells #[.int .u64 ((s.last : Int) + j + 1), .string b] 50))
            clear HO
            have HO := Lib.hid HO2.out
            clear HO2
            clear hsz
            generalize u1.heap.size = b8 at *
            generalize u1.alloc (Obj.cells #[.int .u64 ((s.last : Int) + j + 1), .string b] 50) = u2 at *
            refine wpPart_ready (rs := [6]) (by kernel_rfl) (by simp) ?_
            refine AllPart.cons (o := { dst := some 55, op := Op.call { callee := Callee.builtin Builtin.append, args := #[Operand.tmp 50, Operand.tmp 54], argTypes := #[51, 51] }, type := 51, pos := "ref.go:175", after := #[{ on := 1, ground := Ground.data }, { on := 5, ground := Ground.data }], guard := none }) rfl (by kernel_rfl) (fun K hK => ?_) AllPart.nil
            refine step_append_src (by rfl) _ _ 51 (by rfl) V2.heap.size 50 i0 (.agg #[.int .u64 0, .string ByteArray.empty]) 2 24 Try.underlying51 hii hz0 hz1 hz2 rfl (by omega) (.slice (some ⟨b1, 0, none⟩) 0 0) 0 [] (by rfl) HO.out (.slice A1 (s.out.length + j) k1) (s.out.length + j) (rflat (s.fillN j).out) (by rfl) (HSRC.out.below hHeld.2.2.2.2.1) (by unfold maxLen; omega) (by omega) hHeld.2.2.2.2.1.size ?_
            intro v1 u3 hown hgrow _
            have hS1 := GMid.grown hHeld HO.out hgrow
            simp only [Nat.zero_add, List.nil_append] at hown
            refine hK.out _ _ ?_ (fun hHeld => ?_)
            · first | exact hS1 | exact GMid.alloc hHeld _
            clear hK K
            try simp only [Act.put, List.setIfInBounds_toArray, List.set_cons_zero, List.set_cons_succ]
            have HB9 := Lib.hid (blk_grown HB.out hgrow (fun j hj => by cases hj; exact HNE.out))
            clear HB HNE
            have HB := Lib.hid HB9.out
            clear HB9
            have HO1 := Lib.hid hown
            clear HO
            have HO := Lib.hid HO1.out
            clear HO1
            clear hown hgrow hS1
            refine wpPart_ready (rs := [9]) (by kernel_rfl) (by simp) ?_
            refine AllPart.cons (o := { dst := some 58, op := Op.call { callee := Callee.builtin Builtin.append, args := #[Operand.tmp 55, Operand.tmp 57], argTypes := #[51, 51] }, type := 51, pos := "ref.go:175", after := #[{ on := 6, ground := Ground.data }, { on := 8, ground := Ground.data }, { on := 6, ground := Ground.chain }], guard := none }) rfl (by kernel_rfl) (fun K hK => ?_) AllPart.nil
            refine step_append_src (by rfl) _ _ 51 (by rfl) V2.heap.size 50 i0 (.agg #[.int .u64 0, .string ByteArray.empty]) 2 24 Try.underlying51 hii hz0 hz1 hz2 rfl (by omega) v1 (s.out.length + j) (rflat (s.fillN j).out) (by rfl) HO.out (.slice (some ⟨b8, 0, none⟩) 1 1) 1 [.int .u64 ((s.last : Int) + j + 1), .string b] (by rfl) (SrcOk.block HB.out rfl (fun j u hu => by rw [Nat.zero_add]; simpa using hu) (by simp [Value.oneCell'])) (by unfold maxLen; omega) (by omega) hHeld.2.2.2.2.1.size ?_
            intro v2 u4 hown hgrow _
            have hS1 := GMid.grown hHeld HO.out hgrow
            obtain ⟨g2, c2, rfl, _, _⟩ := hown.form (by omega)
            have HO2 := Lib.hid hown
            refine hK.out _ _ ?_ (fun hHeld => ?_)
            · first | exact hS1 | exact GMid.alloc hHeld _
            clear hK K
            try simp only [Act.put, List.setIfInBounds_toArray, List.set_cons_zero, List.set_cons_succ]
            clear hown hgrow hS1
            refine wpPart_ready (rs := [10]) (by kernel_rfl) (by simp) ?_
            refine AllPart.cons (o := { dst := some 59, op := Op.nilCheck (Operand.tmp 49), type := 0, pos := "ref.go:175", after := #[{ on := 0, ground := Ground.data }, { on := 0, ground := Ground.phase }, { on := 1, ground := Ground.phase }, { on := 2, ground := Ground.phase }, { on := 3, ground := Ground.phase }, { on := 4, ground := Ground.phase }, { on := 5, ground := Ground.phase }, { on := 6, ground := Ground.phase }, { on := 7, ground := Ground.phase }, { on := 8, ground := Ground.phase }, { on := 9, ground := Ground.phase }], guard := none }) rfl (by kernel_rfl) (fun K hK => ?_) AllPart.nil
            go_simp
            refine hK.out _ _ ?_ (fun hHeld => ?_)
            · assumption
            clear hK K
            try simp only [Act.put, List.setIfInBounds_toArray, List.set_cons_zero, List.set_cons_succ]
            refine wpPart_take (i := 11) (oi := { dst := some 60, op := Op.fieldAddr 61 (Operand.tmp 59) 3, type := 0, pos := "ref.go:175", after := #[{ on := 10, ground := Ground.data }, { on := 0, ground := Ground.phase }, { on := 1, ground := Ground.phase }, { on := 2, ground := Ground.phase }, { on := 3, ground := Ground.phase }, { on := 4, ground := Ground.phase }, { on := 5, ground := Ground.phase }, { on := 6, ground := Ground.phase }, { on := 7, ground := Ground.phase }, { on := 8, ground := Ground.phase }, { on := 9, ground := Ground.phase }], guard := none }) (v := ?_) rfl (by kernel_rfl) (by kernel_rfl) (by kernel_rfl) (by kernel_rfl) (by kernel_rfl) (fun _ _ _ h => h) (Or.inl ⟨by rfl, ?_⟩) (by assumption) ?_
            rotate_left
            · intro w hSw; (try dsimp only at hSw); go_simp <;> with_reducible rfl
            try simp only [Act.put, List.setIfInBounds_toArray, List.set_cons_zero, List.set_cons_succ]
            refine wpPart_ready (rs := [12]) (by kernel_rfl) (by simp) ?_
            refine AllPart.last (o := { dst := none, op := Op.store 51 (Operand.tmp 60) (Operand.tmp 58), type := 0, pos := "ref.go:175", after := #[{ on := 11, ground := Ground.data }, { on := 9, ground := Ground.data }, { on := 9, ground := Ground.chain }, { on := 0, ground := Ground.phase }, { on := 1, ground := Ground.phase }, { on := 2, ground := Ground.phase }, { on := 3, ground := Ground.phase }, { on := 4, ground := Ground.phase }, { on := 5, ground := Ground.phase }, { on := 6, ground := Ground.phase }, { on := 7, ground := Ground.phase }, { on := 8, ground := Ground.phase }, { on := 9, ground := Ground.phase }], guard := none }) rfl (by kernel_rfl) (fun K hK => ?_) AllPart.nil
            have hc := hHeld.1
            have hf := hHeld.2.2.2.1
            have HW := Lib.hid hHeld
            go_simp
            refine hK.out _ _ ?_
            clear hK K
            try simp only [Act.put, List.setIfInBounds_toArray, List.set_cons_zero, List.set_cons_succ]
            clear hc hf
            refine wpPart_done (by kernel_rfl) ?_ _
            have HNX := Lib.hid (rgo_next HBR.out HWV2.out HS.out HM.out HR0.out HRV.out HM2.out (by rw [HOV1.out]; exact HB2.out) HW.out.2.2.2.2.1 HO2.out)
            have HB9 := (HW.out.2.2.2.2.1.block _ HW.out.2.2.2.2.2.1).trans HB2.out
            have HX9 : Hid ((u4.setCell ⟨R, 3, none⟩ (.slice (some ⟨g2, 0, none⟩) (s.out.length + j + 1) c2)).heap[xb]? = some (.cells #[.int .u64 ((s.last : Int) + j + 1), .string b] 50 (0, 0))) := blk_far ((HW.out.2.2.2.2.1.block _ HW.out.2.2.2.2.2.2).trans HX2.out) (blk_ne HX2.out HB2.out (by decide)) _
            clear hHeld HW HO2 HB9 HP HSRC HB2 HX2 HM2 HB HO
            generalize u4.setCell ⟨R, 3, none⟩ (.slice (some ⟨g2, 0, none⟩) (s.out.length + j + 1) c2) = V3 at *
            have x0 : V3.cell? ⟨xb, 0, none⟩ = some (.int .u64 ((s.last : Int) + j + 1)) := (blk_cell HX9.out 0).trans rfl
            have x1 : V3.cell? ⟨xb, 1, none⟩ = some (.string b) := (blk_cell HX9.out 1).trans rfl
            have HRW9 : Hid (RowOf (V3.alloc (.cells #[.int .u64 ((s.last : Int) + j + 1), .string b] 50)) 50 2 rv (numbered s.last (s.waits.take j)).length (rflat (numbered s.last (s.waits.take j)))) := RowOf.alloc HNX.out.2.2.1 _
            have HXS : Hid (SrcOk (V3.alloc (.cells #[.int .u64 ((s.last : Int) + j + 1), .string b] 50)) (.slice (some ⟨V3.heap.size, 0, none⟩) 1 1) 1 2 [.int .u64 ((s.last : Int) + j + 1), .string b]) := SrcOk.block (blk_new V3 _) rfl (fun j u hu => by rw [Nat.zero_add]; simpa using hu) (by simp [Value.oneCell'])
            go_wp2_with (at_builtin; refine wpList_append_row (by rfl) _ _ 51 (by rfl) i0 (.agg #[.int .u64 0, .string ByteArray.empty]) 24 Try.underlying51 hii hz0 hz1 hz2 (by rfl) (by omega) (by rfl) HRW9.out (rflat_one _) _ 1 [.int .u64 ((s.last : Int) + j + 1), .string b] (by rfl) HXS.out (by have := HRL.out; unfold maxLen; omega) (by have := HRL.out; omega) ?_)
            intro v9 w9 hrow hgrow hat
            have HE : Hid (RGo w R pr s (j + 1) v9 w9) := rgo_last HNX.out.1 HNX.out.2.1 HNX.out.2.2.1 HNX.out.2.2.2.1 HNX.out.2.2.2.2 hrow hgrow (by simpa using hat)
            clear hrow hgrow hat x0 x1 HRW9 HXS HNX HX9
            go_wp2
            go_roundg (s.goes - (j + 1))
            case measure => omega
            case rel => exact ⟨j + 1, v9, by omega, rfl, rfl, HE⟩
          exact AllPart.nil
        refine AllPart.cons (o := { dst := some 57, op := Op.buildSlice 51 1 #[(0, Operand.tmp 56)], type := 51, pos := "ref.go:175", after := #[{ on := 7, ground := Ground.data }], guard := none }) rfl (by kernel_rfl) (fun K hK => ?_) ?_
        · skip
          have hsz : V2.heap.size ≤ u0.heap.size := hHeld.2.2.2.2.1.size
          go_simp
          refine hK.out _ _ ?_ (fun hHeld => ?_)
          · first | exact hS1 | exact GMid.alloc hHeld _
          clear hK K
          try simp only [Act.put, List.setIfInBounds_toArray, List.set_cons_zero, List.set_cons_succ]
          have HB : Hid ((u0.alloc (Obj.cells #[.int .u64 ((s.last : Int) + j + 1), .string b] 50)).heap[u0.heap.size]? = some (Obj.cells #[.int .u64 ((s.last : Int) + j + 1), .string b] 50 (0, 0))) := blk_new _ _
          clear hsz
          generalize u0.heap.size = b8 at *
          generalize u0.alloc (Obj.cells #[.int .u64 ((s.last : Int) + j + 1), .string b] 50) = u1 at *
          refine wpPart_ready (rs := [1]) (by kernel_rfl) (by simp) ?_
          refine AllPart.cons (o := { dst := some 50, op := Op.buildSlice 51 0 #[], type := 51, pos := "ref.go:175", after := #[], guard := none }) rfl (by kernel_rfl) (fun K hK => ?_) AllPart.nil
          have hsz : V2.heap.size ≤ u1.heap.size := hHeld.2.2.2.2.1.size
          go_simp
          refine hK.out _ _ ?_ (fun hHeld => ?_)
          · first | exact hS1 | exact GMid.alloc hHeld _
          clear hK K
          try simp only [Act.put, List.setIfInBounds_toArray, List.set_cons_zero, List.set_cons_succ]
          have HO : Hid ((u1.alloc (Obj.cells #[] 50)).ownsRow V2.heap.size 50 2 (.slice (some ⟨u1.heap.size, 0, none⟩) 0 0) 0 []) := World.ownsRow_made u1 #[] 0 hsz (by unfold maxLen; omega) rfl
          have HB9 := Lib.hid (blk_alloc HB.out (Obj.cells #[] 50))
          have HNE : Hid (b8 ≠ u1.heap.size) := by have := blk_lt HB.out; show _ ≠ _; omega
          clear HB
          have HB := Lib.hid HB9.out
          clear HB9
          clear hsz
          generalize u1.heap.size = b1 at *
          generalize u1.alloc (Obj.cells #[] 50) = u2 at *
          refine wpPart_ready (rs := [6]) (by kernel_rfl) (by simp) ?_
          refine AllPart.cons (o := { dst := some 55, op := Op.call { callee := Callee.builtin Builtin.append, args := #[Operand.tmp 50, Operand.tmp 54], argTypes := #[51, 51] }, type := 51, pos := "ref.go:175", after := #[{ on := 1, ground := Ground.data }, { on := 5, ground := Ground.data }], guard := none }) rfl (by kernel_rfl) (fun K hK => ?_) AllPart.nil
          refine step_append_src (by rfl) _ _ 51 (by rfl) V2.heap.size 50 i0 (.agg #[.int .u64 0, .string ByteArray.empty]) 2 24 Try.underlying51 hii hz0 hz1 hz2 rfl (by omega) (.slice (some ⟨b1, 0, none⟩) 0 0) 0 [] (by rfl) HO.out (.slice A1 (s.out.length + j) k1) (s.out.length + j) (rflat (s.fillN j).out) (by rfl) (HSRC.out.below hHeld.2.2.2.2.1) (by unfold maxLen; omega) (by omega) hHeld.2.2.2.2.1.size ?_
          intro v1 u3 hown hgrow _
          have hS1 := GMid.grown hHeld HO.out hgrow
          simp only [Nat.zero_add, List.nil_append] at hown
          refine hK.out _ _ ?_ (fun hHeld => ?_)
          · first | exact hS1 | exact GMid.alloc hHeld _
          clear hK K
          try simp only [Act.put, List.setIfInBounds_toArray, List.set_cons_zero, List.set_cons_succ]
          have HB9 := Lib.hid (blk_grown HB.out hgrow (fun j hj => by cases hj; exact HNE.out))
          clear HB HNE
          have HB := Lib.hid HB9.out
          clear HB9
          have HO1 := Lib.hid hown
          clear HO
          have HO := Lib.hid HO1.out
          clear HO1
          clear hown hgrow hS1
          refine wpPart_ready (rs := [9]) (by kernel_rfl) (by simp) ?_
          refine AllPart.cons (o := { dst := some 58, op := Op.call { callee := Callee.builtin Builtin.append, args := #[Operand.tmp 55, Operand.tmp 57], argTypes := #[51, 51] }, type := 51, pos := "ref.go:175", after := #[{ on := 6, ground := Ground.data }, { on := 8, ground := Ground.data }, { on := 6, ground := Ground.chain }], guard := none }) rfl (by kernel_rfl) (fun K hK => ?_) AllPart.nil
          refine step_append_src (by rfl) _ _ 51 (by rfl) V2.heap.size 50 i0 (.agg #[.int .u64 0, .string ByteArray.empty]) 2 24 Try.underlying51 hii hz0 hz1 hz2 rfl (by omega) v1 (s.out.length + j) (rflat (s.fillN j).out) (by rfl) HO.out (.slice (some ⟨b8, 0, none⟩) 1 1) 1 [.int .u64 ((s.last : Int) + j + 1), .string b] (by rfl) (SrcOk.block HB.out rfl (fun j u hu => by rw [Nat.zero_add]; simpa using hu) (by simp [Value.oneCell'])) (by unfold maxLen; omega) (by omega) hHeld.2.2.2.2.1.size ?_
          intro v2 u4 hown hgrow _
          have hS1 := GMid.grown hHeld HO.out hgrow
          obtain ⟨g2, c2, rfl, _, _⟩ := hown.form (by omega)
          have HO2 := Lib.hid hown
          refine hK.out _ _ ?_ (fun hHeld => ?_)
          · first | exact hS1 | exact GMid.alloc hHeld _
          clear hK K
          try simp only [Act.put, List.setIfInBounds_toArray, List.set_cons_zero, List.set_cons_succ]
          clear hown hgrow hS1
          refine wpPart_ready (rs := [10]) (by kernel_rfl) (by simp) ?_
          refine AllPart.cons (o := { dst := some 59, op := Op.nilCheck (Operand.tmp 49), type := 0, pos := "ref.go:175", after := #[{ on := 0, ground := Ground.data }, { on := 0, ground := Ground.phase }, { on := 1, ground := Ground.phase }, { on := 2, ground := Ground.phase }, { on := 3, ground := Ground.phase }, { on := 4, ground := Ground.phase }, { on := 5, ground := Ground.phase }, { on := 6, ground := Ground.phase }, { on := 7, ground := Ground.phase }, { on := 8, ground := Ground.phase }, { on := 9, ground := Ground.phase }], guard := none }) rfl (by kernel_rfl) (fun K hK => ?_) AllPart.nil
          go_simp
          refine hK.out _ _ ?_ (fun hHeld => ?_)
          · assumption
          clear hK K
          try simp only [Act.put, List.setIfInBounds_toArray, List.set_cons_zero, List.set_cons_succ]
          refine wpPart_take (i := 11) (oi := { dst := some 60, op := Op.fieldAddr 61 (Operand.tmp 59) 3, type := 0, pos := "ref.go:175", after := #[{ on := 10, ground := Ground.data }, { on := 0, ground := Ground.phase }, { on := 1, ground := Ground.phase }, { on := 2, ground := Ground.phase }, { on := 3, ground := Ground.phase }, { on := 4, ground := Ground.phase }, { on := 5, ground := Ground.phase }, { on := 6, ground := Ground.phase }, { on := 7, ground := Ground.phase }, { on := 8, ground := Ground.phase }, { on := 9, ground := Ground.phase }], guard := none }) (v := ?_) rfl (by kernel_rfl) (by kernel_rfl) (by kernel_rfl) (by kernel_rfl) (by kernel_rfl) (fun _ _ _ h => h) (Or.inl ⟨by rfl, ?_⟩) (by assumption) ?_
          rotate_left
          · intro w hSw; (try dsimp only at hSw); go_simp <;> with_reducible rfl
          try simp only [Act.put, List.setIfInBounds_toArray, List.set_cons_zero, List.set_cons_succ]
          refine wpPart_ready (rs := [12]) (by kernel_rfl) (by simp) ?_
          refine AllPart.last (o := { dst := none, op := Op.store 51 (Operand.tmp 60) (Operand.tmp 58), type := 0, pos := "ref.go:175", after := #[{ on := 11, ground := Ground.data }, { on := 9, ground := Ground.data }, { on := 9, ground := Ground.chain }, { on := 0, ground := Ground.phase }, { on := 1, ground := Ground.phase }, { on := 2, ground := Ground.phase }, { on := 3, ground := Ground.phase }, { on := 4, ground := Ground.phase }, { on := 5, ground := Ground.phase }, { on := 6, ground := Ground.phase }, { on := 7, ground := Ground.phase }, { on := 8, ground := Ground.phase }, { on := 9, ground := Ground.phase }], guard := none }) rfl (by kernel_rfl) (fun K hK => ?_) AllPart.nil
          have hc := hHeld.1
          have hf := hHeld.2.2.2.1
          have HW := Lib.hid hHeld
          go_simp
          refine hK.out _ _ ?_
          clear hK K
          try simp only [Act.put, List.setIfInBounds_toArray, List.set_cons_zero, List.set_cons_succ]
          clear hc hf
          refine wpPart_done (by kernel_rfl) ?_ _
          have HNX := Lib.hid (rgo_next HBR.out HWV2.out HS.out HM.out HR0.out HRV.out HM2.out (by rw [HOV1.out]; exact HB2.out) HW.out.2.2.2.2.1 HO2.out)
          have HB9 := (HW.out.2.2.2.2.1.block _ HW.out.2.2.2.2.2.1).trans HB2.out
          have HX9 : Hid ((u4.setCell ⟨R, 3, none⟩ (.slice (some ⟨g2, 0, none⟩) (s.out.length + j + 1) c2)).heap[xb]? = some (.cells #[.int .u64 ((s.last : Int) + j + 1), .string b] 50 (0, 0))) := blk_far ((HW.out.2.2.2.2.1.block _ HW.out.2.2.2.2.2.2).trans HX2.out) (blk_ne HX2.out HB2.out (by decide)) _
          clear hHeld HW HO2 HB9 HP HSRC HB2 HX2 HM2 HB HO
          generalize u4.setCell ⟨R, 3, none⟩ (.slice (some ⟨g2, 0, none⟩) (s.out.length + j + 1) c2) = V3 at *
          have x0 : V3.cell? ⟨xb, 0, none⟩ = some (.int .u64 ((s.last : Int) + j + 1)) := (blk_cell HX9.out 0).trans rfl
          have x1 : V3.cell? ⟨xb, 1, none⟩ = some (.string b) := (blk_cell HX9.out 1).trans rfl
          have HRW9 : Hid (RowOf (V3.alloc (.cells #[.int .u64 ((s.last : Int) + j + 1), .string b] 50)) 50 2 rv (numbered s.last (s.waits.take j)).length (rflat (numbered s.last (s.waits.take j)))) := RowOf.alloc HNX.out.2.2.1 _
          have HXS : Hid (SrcOk (V3.alloc (.cells #[.int .u64 ((s.last : Int) + j + 1), .string b] 50)) (.slice (some ⟨V3.heap.size, 0, none⟩) 1 1) 1 2 [.int .u64 ((s.last : Int) + j + 1), .string b]) := SrcOk.block (blk_new V3 _) rfl (fun j u hu => by rw [Nat.zero_add]; simpa using hu) (by simp [Value.oneCell'])
          go_wp2_with (at_builtin; refine wpList_append_row (by rfl) _ _ 51 (by rfl) i0 (.agg #[.int .u64 0, .string ByteArray.empty]) 24 Try.underlying51 hii hz0 hz1 hz2 (by rfl) (by omega) (by rfl) HRW9.out (rflat_one _) _ 1 [.int .u64 ((s.last : Int) + j + 1), .string b] (by rfl) HXS.out (by have := HRL.out; unfold maxLen; omega) (by have := HRL.out; omega) ?_)
          intro v9 w9 hrow hgrow hat
          have HE : Hid (RGo w R pr s (j + 1) v9 w9) := rgo_last HNX.out.1 HNX.out.2.1 HNX.out.2.2.1 HNX.out.2.2.2.1 HNX.out.2.2.2.2 hrow hgrow (by simpa using hat)
          clear hrow hgrow hat x0 x1 HRW9 HXS HNX HX9
          go_wp2
          go_roundg (s.goes - (j + 1))
          case measure => omega
          case rel => exact ⟨j + 1, v9, by omega, rfl, rfl, HE⟩
        exact AllPart.nil
    · obtain rfl : j = s.goes := by omega
      have HE : Hid (RGone w R pr s (.returned rv) wr) := ⟨rv, rfl, ov1, wv1, hS, hr, hM⟩
      have HEQ : Hid (∀ q, RGone w R pr s (.returned rv) (wr.drewN q)) := Lib.hid fun q => ⟨rv, rfl, ov1, wv1, hS.same ((Mod.refl _ _).drewN q), RowOf.mod hr ((Mod.refl (fun _ => False) _).drewN q) (fun _ _ x => x), hM.drewN q⟩
      rw [hov1] at c3
      rw [hwv1] at c4
      have hgd : s.goes = min s.waits.length (s.win - s.out.length) := rfl
      have hcase : s.waits.length - s.goes = 0 ∨ (s.waits.length - s.goes ≠ 0 ∧ ¬ (s.out.length + s.goes < s.win)) := by omega
      generalize s.waits.length - s.goes = n at *
      clear hS hr hrv hM hR hov1 hwv1 n1 n2 hgd hgo c5 c5' z5
      rcases hcase with rfl | ⟨hn, hge⟩
      · go_wp2_with fail
        go_quiet (fail)
        go_wp2
        go_ret
        exact HEQ.out _
      · have t1 : decide ((0 : Int) < (n : Int)) = true := decide_eq_true (by omega)
        have t1' : decide (0 < n) = true := decide_eq_true (by omega)
        have t2 : decide (s.out.length + s.goes < s.win) = false := decide_eq_false hge
        have t3 : decide ((s.out.length : Int) + s.goes < s.win) = false := decide_eq_false (by omega)
        clear hge
        go_wp2_with fail
        go_quiet (fail)
        go_wp2
        go_ret
        exact HEQ.out _
end Go.Proofs.Ytcgfbbfepopinaa
