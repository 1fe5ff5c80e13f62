/-
  The reference's ship: Ack.
-/
import Derived.Test.YtcgfbbfepopinaaShipV
namespace Go.Proofs.Ytcgfbbfepopinaa
open Go.RowKit Go.Shoal

/-- What is out rises. -/
def Srt (l : List It) : Prop := l.Pairwise fun a b => a.num < b.num
theorem drop_filter {n : Nat} {d l : List It} (hd : ∀ y ∈ d, y.num ≤ n) (hl : l = [] ∨ ∃ y r, l = y :: r ∧ n < y.num) (hs : Srt (d ++ l)) : (d ++ l).filter (fun x => decide (n < x.num)) = l := by
  rw [List.filter_append]
  have h1 : d.filter (fun x => decide (n < x.num)) = [] := by
    rw [List.filter_eq_nil_iff]
    intro y hy
    have := hd y hy
    simp; omega
  rw [h1, List.nil_append]
  rcases hl with rfl | ⟨y, r, rfl, hy⟩
  · rfl
  · rw [List.filter_eq_self]
    intro z hz
    have h2 := (List.pairwise_append.1 hs).2.1
    rcases List.mem_cons.1 hz with rfl | hz
    · exact decide_eq_true hy
    · have := (List.pairwise_cons.1 h2).1 z hz
      exact decide_eq_true (by omega)
theorem acked_fit {s : Shp} (h : s.Fit) (n : Nat) : (s.acked n).Fit :=
  ⟨Nat.le_trans (List.length_filter_le _ _) h.1, h.2.1, fun x hx => h.2.2.1 x (List.mem_filter.1 hx).1, h.2.2.2.1, h.2.2.2.2⟩
theorem ritems_first {w : World} {v : Value} {x : It} {r : List It} (h : RItemsAt w v (x :: r)) : ∃ b o c, v = .slice (some ⟨b, o, none⟩) (r.length + 1) (c + 1) ∧ w.cell? ⟨b, o, none⟩ = some (.int .u64 x.num) := by
  unfold RItemsAt at h
  obtain ⟨b, o, cap, cur, rfl, hcur, hcap, hcells⟩ := RowOf.at h (by simp)
  obtain ⟨c, rfl⟩ : ∃ c, cap = c + 1 := ⟨cap - 1, by simp at hcap; omega⟩
  refine ⟨b, o, c, rfl, (blk_cell hcur _).trans ?_⟩
  have := hcells 0 (by simp)
  simpa [rflat] using this
set_option maxHeartbeats 1000000 in
theorem rack_no (w : World) (R pr : Nat) (s : Shp) (n : Nat) (h : RShip w R pr s) (hn : s.out = [] ∨ ∃ x r, s.out = x :: r ∧ (n < x.num ∨ s.last < n)) :
    Calls Try.prog 22 #[.pointer (some ⟨R, 0, none⟩), .int .u64 n] w fun e w' => e = .returned (.slice none 0 0) ∧ w = w' := by
  obtain ⟨ov, wv, h⟩ := h
  have c3 : w.cell? ⟨R, 3, none⟩ = some ov := (blk_cell h.top 3).trans rfl
  have c5 : w.cell? ⟨R, 5, none⟩ = some (.int .u64 s.last) := (blk_cell h.top 5).trans rfl
  have ho := h.out
  rcases hn with hn | ⟨x, r, hx, hn⟩
  · rw [hn] at ho
    obtain ⟨A, c, rfl⟩ := RowOf.form ho
    have c3' : w.cell? ⟨R, 3, none⟩ = some (.slice A 0 c) := c3
    clear h ho hn c3
    go_enter Try.func22, Try.ntmps22
    go_wp2
    go_ret
    exact ⟨rfl, rfl⟩
  · rw [hx] at ho
    obtain ⟨b, o, c, rfl, e0⟩ := ritems_first ho
    have t1 : (((r.length : Int) + 1) == 0) = false := by rw [beq_eq_false_iff_ne]; omega
    have t1' : ¬ ((r.length : Int) + 1 = 0) := by omega
    have hl0 : (0 : Int) < (r.length : Int) + 1 := by omega
    have hl1 : (0 : Nat) < r.length + 1 := by omega
    clear h ho hx
    by_cases h1 : n < x.num
    · have t2 : decide (n < x.num) = true := decide_eq_true h1
      clear hn h1
      go_enter Try.func22, Try.ntmps22
      go_wp2
      go_ret
      exact ⟨rfl, rfl⟩
    · have t2 : decide (n < x.num) = false := decide_eq_false h1
      have t3 : decide (s.last < n) = true := decide_eq_true (hn.resolve_left h1)
      clear hn h1
      go_enter Try.func22, Try.ntmps22
      go_wp2
      go_ret
      exact ⟨rfl, rfl⟩
/-- While Ack drops. -/
def RDrop (w : World) (R pr : Nat) (s : Shp) (n : Nat) (l : List It) (wr : World) : Prop :=
  (∃ d, s.out = d ++ l ∧ ∀ y ∈ d, y.num ≤ n) ∧ (∃ ov wv, RSh wr R pr ov wv { s with out := l }) ∧ Mod (· = R) w wr
theorem RDrop.next {w wr : World} {R pr b o c n : Nat} {s : Shp} {x : It} {r : List It} {wv : Value} (hd : ∃ d, s.out = d ++ x :: r ∧ ∀ y ∈ d, y.num ≤ n) (hx : x.num ≤ n)
    (h : RSh wr R pr (.slice (some ⟨b, o, none⟩) (r.length + 1) (c + 1)) wv { s with out := x :: r }) (hm : Mod (· = R) w wr) :
    RDrop w R pr s n r (wr.setCell ⟨R, 3, none⟩ (.slice (some ⟨b, if c = 0 then o else o + 2, none⟩) r.length c)) := by
  obtain ⟨d, hd1, hd2⟩ := hd
  have hk : KeepT [63, 50, 9] wr (wr.setCell ⟨R, 3, none⟩ (.slice (some ⟨b, if c = 0 then o else o + 2, none⟩) r.length c)) := KeepT.set h.top (by decide) _
  have ho : RItemsAt wr (.slice (some ⟨b, if c = 0 then o else o + 2, none⟩) r.length c) r := RowOf.tail h.out
  refine ⟨⟨d ++ [x], by rw [hd1]; simp, fun y hy => ?_⟩, ⟨_, wv, ⟨(blk_set h.top 3 _).trans rfl, hk _ _ _ (by decide) h.pace, RowOf.keepT ho hk (by decide), RowOf.keepT h.waits hk (by decide)⟩⟩, hm.set (fun _ => rfl) _⟩
  rcases List.mem_append.1 hy with hy | hy
  · exact hd2 y hy
  · rw [List.mem_singleton.1 hy]; exact hx
set_option maxRecDepth 100000 in
set_option maxHeartbeats 4000000 in
theorem rack_yes (w : World) (R pr : Nat) (s : Shp) (n : Nat) (h : RShip w R pr s) (hf : s.Fit) (hw : s.win ≤ 16) (hn : s.hears n) (hs : Srt s.out) (ok : s.p.Ok) :
    Calls Try.prog 22 #[.pointer (some ⟨R, 0, none⟩), .int .u64 n] w (RDid w R pr (s.acked n).filled (s.acked n).news idV) := by
  obtain ⟨x, r, hx, hx1, hx2⟩ := hn
  have H0 : Hid (RDrop w R pr s n s.out w) := ⟨⟨[], rfl, fun y hy => by cases hy⟩, h, Mod.refl _ _⟩
  obtain ⟨ov, wv, h⟩ := h
  have c3 : w.cell? ⟨R, 3, none⟩ = some ov := (blk_cell h.top 3).trans rfl
  have c5 : w.cell? ⟨R, 5, none⟩ = some (.int .u64 s.last) := (blk_cell h.top 5).trans rfl
  have ho := h.out
  rw [hx] at ho
  obtain ⟨b, o, c, rfl, e0⟩ := ritems_first ho
  have t1 : (((r.length : Int) + 1) == 0) = false := by rw [beq_eq_false_iff_ne]; omega
  have t1' : ¬ ((r.length : Int) + 1 = 0) := by omega
  have hl0 : (0 : Int) < (r.length : Int) + 1 := by omega
  have hl1 : (0 : Nat) < r.length + 1 := by omega
  have t2 : decide (n < x.num) = false := decide_eq_false (by omega)
  have t3 : decide (s.last < n) = false := decide_eq_false (by omega)
  have HSRT := Lib.hid hs
  have HFA := Lib.hid (acked_fit hf n)
  have HOK := Lib.hid (Pc.stop_ok ok)
  have HF := Lib.hid hf
  clear h ho hx hs hf ok
  go_enter Try.func22, Try.ntmps22
  go_wp2
  go_loopg [31] s.out.length (fun g _ wr => ∃ l : List It, g = l.length ∧ Hid (RDrop w R pr s n l wr))
  case atStart => exact ⟨s.out, rfl, H0⟩
  case round =>
    obtain ⟨l, rfl, hR⟩ := hrel
    obtain ⟨hd, ⟨ov1, wv1, hS⟩, hM⟩ := hR.out
    have d3 : wr.cell? ⟨R, 3, none⟩ = some ov1 := (blk_cell hS.top 3).trans rfl
    have z3 := blk_frozen hS.top 3
    have done : (l = [] ∨ ∃ y q, l = y :: q ∧ n < y.num) → Hid (RSh wr R pr ov1 wv1 { s with out := s.out.filter fun x => decide (n < x.num) }) := fun hl => by
      obtain ⟨d, hd1, hd2⟩ := hd
      have hs := HSRT.out
      rw [hd1] at hs
      have e := drop_filter hd2 hl hs
      rw [← hd1] at e
      show RSh _ _ _ _ _ _
      rw [e]
      exact hS
    have HDONE := Lib.hid done
    clear done
    cases l with
    | nil =>
      obtain ⟨A9, k9, rfl⟩ := RowOf.form hS.out
      have HS := HDONE.out (.inl rfl)
      have d3' : wr.cell? ⟨R, 3, none⟩ = some (.slice A9 0 k9) := d3
      have HM := Lib.hid hM
      clear d3 hS hd hM hR HDONE
      have e2 : wr.cell? ⟨R, 2, none⟩ = some (.pointer (some ⟨pr, 0, none⟩)) := (blk_cell HS.out.top 2).trans rfl
      have HST := Lib.hid (ref_stop wr pr s.p HS.out.pace)
      go_wp2_with fail
      refine HST.out.mono ?_
      rintro e w1 ⟨rfl, hp, hm⟩
      have HA : Hid (RSh w1 R pr _ wv1 (s.acked n)) := (HS.out.paced hp hm).1
      have HM1 : Hid (Mod (fun k => k = R ∨ k = pr) w w1) := (HM.out.mono (T := fun k => k = R ∨ k = pr) (fun _ _ x => .inl x)).trans (hm.mono (fun _ _ x => .inr x))
      have HG := Lib.hid (rgoes_any w1 R pr _ _ (s.acked n) HA.out HFA.out hw)
      clear hp hm HST HS HM HA e2
      go_wp2_with fail
      refine HG.out.mono ?_
      rintro e w3 ⟨rv, rfl, ov3, wv3, hS3, hI3, hM3⟩
      have HS3 := Lib.hid hS3
      have HI3 := Lib.hid hI3
      have HM3 : Hid (Mod (fun k => k = R ∨ k = pr) w w3) := HM1.out.trans (hM3.mono (fun _ _ x => .inl x))
      obtain ⟨A7, k7, rfl⟩ := RowOf.form hS3.out
      have f3 : w3.cell? ⟨R, 3, none⟩ = some (.slice A7 ((s.acked n).fillN (s.acked n).goes).out.length k7) := (blk_cell hS3.top 3).trans rfl
      have f2 : w3.cell? ⟨R, 2, none⟩ = some (.pointer (some ⟨pr, 0, none⟩)) := (blk_cell hS3.top 2).trans rfl
      clear hS3 hI3 hM3 HG HM1
      by_cases hn : ((s.acked n).fillN (s.acked n).goes).out = []
      · have HE : Hid (RDid w R pr (s.acked n).filled (s.acked n).news idV (.returned rv) w3) := by
          have hfe : (s.acked n).filled = (s.acked n).fillN (s.acked n).goes := by
            unfold Shp.filled
            rw [if_pos hn]
            rfl
          refine ⟨rv, rfl, HI3.out, ?_, HM3.out⟩
          rw [hfe]
          exact ⟨_, _, HS3.out⟩
        rw [hn] at f3
        have f3' : w3.cell? ⟨R, 3, none⟩ = some (.slice A7 0 k7) := f3
        clear f3 hn HS3 HI3 HM3
        go_wp2
        go_ret
        exact HE.out
      · have hpos : 0 < ((s.acked n).fillN (s.acked n).goes).out.length := List.length_pos_iff.2 hn
        have t8 : decide ((0 : Int) < (((s.acked n).fillN (s.acked n).goes).out.length : Int)) = true := decide_eq_true (by omega)
        have t8' : decide (0 < ((s.acked n).fillN (s.acked n).goes).out.length) = true := decide_eq_true hpos
        have HST := Lib.hid (ref_start w3 pr (s.acked n).p HS3.out.pace HOK.out.l0 (by have h1 := HOK.out.f1; have h2 := HOK.out.fs; show 1 ≤ s.p.stop.step; omega))
        have HNE := Lib.hid hn
        clear hn hpos
        generalize ((s.acked n).fillN (s.acked n).goes).out.length = N at *
        go_wp2_with fail
        refine HST.out.mono ?_
        rintro e w4 ⟨rfl, hp, hm⟩
        have HE : Hid (RDid w R pr (s.acked n).filled (s.acked n).news idV (.returned rv) w4) := by
          obtain ⟨k1, k2⟩ := HS3.out.paced hp hm
          have hfe : { (s.acked n).fillN (s.acked n).goes with p := (s.acked n).p.start } = (s.acked n).filled := filled_of (by rw [if_neg HNE.out])
          rw [hfe] at k1
          exact ⟨rv, rfl, RowOf.keepT HI3.out k2 (by decide), ⟨_, _, k1⟩, HM3.out.trans (hm.mono (fun _ _ x => .inr x))⟩
        clear hp hm
        go_wp2
        go_ret
        exact HE.out
    | cons y q =>
      have hq := hS.out
      obtain ⟨b1, o1, c1, rfl, e1⟩ := ritems_first hq
      have hq0 : (0 : Int) < (q.length : Int) + 1 := by omega
      have hq1 : (0 : Nat) < q.length + 1 := by omega
      have hq9 : (1 : Int) ≤ (q.length : Int) + 1 := by omega
      have tq : decide ((0 : Int) < (q.length : Int) + 1) = true := decide_eq_true hq0
      by_cases hy : y.num ≤ n
      · have ty : decide (y.num ≤ n) = true := decide_eq_true hy
        have HN := Lib.hid (RDrop.next hd hy hS hM)
        have hzq : wr.heap.size = wr.heap.size := rfl
        clear hS hd hM hR HDONE hq hy hzq
        rcases c1 with _ | cz
        · go_wp2
          go_roundg q.length
          case measure => simp
          case rel => exact ⟨q, rfl, HN⟩
        · go_wp2
          go_roundg q.length
          case measure => simp
          case rel => exact ⟨q, rfl, HN⟩
      · have ty : decide (y.num ≤ n) = false := decide_eq_false hy
        have HS := HDONE.out (.inr ⟨y, q, rfl, by omega⟩)
        have HM := Lib.hid hM
        clear hS hd hM hR HDONE hq hy
        have e2 : wr.cell? ⟨R, 2, none⟩ = some (.pointer (some ⟨pr, 0, none⟩)) := (blk_cell HS.out.top 2).trans rfl
        have HST := Lib.hid (ref_stop wr pr s.p HS.out.pace)
        go_wp2_with fail
        refine HST.out.mono ?_
        rintro e w1 ⟨rfl, hp, hm⟩
        have HA : Hid (RSh w1 R pr _ wv1 (s.acked n)) := (HS.out.paced hp hm).1
        have HM1 : Hid (Mod (fun k => k = R ∨ k = pr) w w1) := (HM.out.mono (T := fun k => k = R ∨ k = pr) (fun _ _ x => .inl x)).trans (hm.mono (fun _ _ x => .inr x))
        have HG := Lib.hid (rgoes_any w1 R pr _ _ (s.acked n) HA.out HFA.out hw)
        clear hp hm HST HS HM HA e2
        go_wp2_with fail
        refine HG.out.mono ?_
        rintro e w3 ⟨rv, rfl, ov3, wv3, hS3, hI3, hM3⟩
        have HS3 := Lib.hid hS3
        have HI3 := Lib.hid hI3
        have HM3 : Hid (Mod (fun k => k = R ∨ k = pr) w w3) := HM1.out.trans (hM3.mono (fun _ _ x => .inl x))
        obtain ⟨A7, k7, rfl⟩ := RowOf.form hS3.out
        have f3 : w3.cell? ⟨R, 3, none⟩ = some (.slice A7 ((s.acked n).fillN (s.acked n).goes).out.length k7) := (blk_cell hS3.top 3).trans rfl
        have f2 : w3.cell? ⟨R, 2, none⟩ = some (.pointer (some ⟨pr, 0, none⟩)) := (blk_cell hS3.top 2).trans rfl
        clear hS3 hI3 hM3 HG HM1
        by_cases hn : ((s.acked n).fillN (s.acked n).goes).out = []
        · have HE : Hid (RDid w R pr (s.acked n).filled (s.acked n).news idV (.returned rv) w3) := by
            have hfe : (s.acked n).filled = (s.acked n).fillN (s.acked n).goes := by
              unfold Shp.filled
              rw [if_pos hn]
              rfl
            refine ⟨rv, rfl, HI3.out, ?_, HM3.out⟩
            rw [hfe]
            exact ⟨_, _, HS3.out⟩
          rw [hn] at f3
          have f3' : w3.cell? ⟨R, 3, none⟩ = some (.slice A7 0 k7) := f3
          clear f3 hn HS3 HI3 HM3
          go_wp2
          go_ret
          exact HE.out
        · have hpos : 0 < ((s.acked n).fillN (s.acked n).goes).out.length := List.length_pos_iff.2 hn
          have t8 : decide ((0 : Int) < (((s.acked n).fillN (s.acked n).goes).out.length : Int)) = true := decide_eq_true (by omega)
          have t8' : decide (0 < ((s.acked n).fillN (s.acked n).goes).out.length) = true := decide_eq_true hpos
          have HST := Lib.hid (ref_start w3 pr (s.acked n).p HS3.out.pace HOK.out.l0 (by have h1 := HOK.out.f1; have h2 := HOK.out.fs; show 1 ≤ s.p.stop.step; omega))
          have HNE := Lib.hid hn
          clear hn hpos
          generalize ((s.acked n).fillN (s.acked n).goes).out.length = N at *
          go_wp2_with fail
          refine HST.out.mono ?_
          rintro e w4 ⟨rfl, hp, hm⟩
          have HE : Hid (RDid w R pr (s.acked n).filled (s.acked n).news idV (.returned rv) w4) := by
            obtain ⟨k1, k2⟩ := HS3.out.paced hp hm
            have hfe : { (s.acked n).fillN (s.acked n).goes with p := (s.acked n).p.start } = (s.acked n).filled := filled_of (by rw [if_neg HNE.out])
            rw [hfe] at k1
            exact ⟨rv, rfl, RowOf.keepT HI3.out k2 (by decide), ⟨_, _, k1⟩, HM3.out.trans (hm.mono (fun _ _ x => .inr x))⟩
          clear hp hm
          go_wp2
          go_ret
          exact HE.out
end Go.Proofs.Ytcgfbbfepopinaa
