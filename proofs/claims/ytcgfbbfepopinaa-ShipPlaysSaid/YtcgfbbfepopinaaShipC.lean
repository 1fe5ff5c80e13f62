/-
  Package ship: Waits; fill.
-/
import Derived.Test.YtcgfbbfepopinaaShipB
namespace Go.Proofs.Ytcgfbbfepopinaa
open Go.RowKit Go.Shoal

theorem waits_step {w wr w1 w2 : World} {l : List ByteArray} {k : Nat} {v v' u : Value} {x : ByteArray} {lo : List (ByteArray × Value)} (h1 : lo.map (·.1) = l.take k) (h2 : RowOf wr 31 1 v k (lo.map (·.2))) (h3 : ∀ p ∈ lo, BytesAt (fun q => w.heap.size ≤ q) wr p.2 p.1)
    (h4 : ∀ q, v.ownBlock = some q → w.heap.size ≤ q) (h5 : Mod (fun _ => False) w wr) (hk : k < l.length) (hx : l[k]? = some x)
    (m1 : Mod (fun _ => False) wr w1) (hb : BytesAt (fun q => wr.heap.size ≤ q) w1 u x) (hg : w1.grownBy w2 v.ownBlock) (hrow : RowOf w2 31 1 v' (k + 1) (lo.map (·.2) ++ [u]))
    (hat : v'.ownBlock = v.ownBlock ∨ v'.ownBlock = some w1.heap.size) : WaitsRel w l (k + 1) v' w2 := by
  have hlen1 : (l.take (k + 1)).length = k + 1 := by rw [List.length_take]; omega
  have hsz : w.heap.size ≤ w1.heap.size := Nat.le_trans h5.size m1.size
  have hkt : KeepT [5] w1 w2 := KeepT.grown hg (fun q hq => by
    obtain ⟨cur, hc⟩ := (h2.mod m1 (fun _ _ x => x)).block hq
    exact ⟨cur, _, hc, by decide⟩)
  refine ⟨⟨lo ++ [(x, u)], ?_, ?_, fun p hp => ?_⟩, fun q hq => ?_, ?_⟩
  · rw [List.map_append, h1, List.take_add_one, hx]
    rfl
  · rw [List.map_append, hlen1]
    exact hrow
  · rcases List.mem_append.1 hp with hp | hp
    · exact ((h3 p hp).mod m1 (fun _ _ _ x => x)).keepT hkt (by decide)
    · obtain rfl := List.mem_singleton.1 hp
      exact (hb.mono (fun q _ hq => Nat.le_trans h5.size hq)).keepT hkt (by decide)
  · rcases hat with e | e
    · exact h4 q (by rw [← e]; exact hq)
    · rw [hq] at e; cases e; exact hsz
  · exact (h5.trans m1).grown hg h4
set_option maxHeartbeats 2000000 in
theorem waits_any (w : World) (B pb : Nat) (ov wv : Value) (s : Shp) (h : ShipAt w B pb ov wv s) (hf : s.Fit) : Calls Try.prog 15 #[.pointer (some ⟨B, 0, none⟩)] w (WaitsEnd w s.waits) := by
  obtain ⟨i0, hii, hz0', hz1', hz2'⟩ := info_parts Try.infoBytes
  have c4 := (blk_cell h.1 4).trans rfl
  obtain ⟨l', h1, h2, h3⟩ := h.2.2.2
  have H0 : Hid (WaitsRel w s.waits 0 (.slice none 0 0) w) := ⟨⟨[], rfl, RowOf.nil _ _ _, fun p hp => (by cases hp)⟩, fun q hq => (by cases hq), Mod.refl _ _⟩
  have hl := hf.2.1
  have hsl := Lib.hid hf.2.2.2.1
  clear h hf
  generalize s.waits = l at *
  have HR := Lib.hid h2
  have HE := Lib.hid h3
  have HL := Lib.hid h1
  obtain ⟨A, c, rfl⟩ := h2.form
  clear h1 h2 h3
  go_enter Try.func15, Try.ntmps15
  go_wp2
  go_loopw [3, 11] (fun o i wr => ∃ k : Nat, k ≤ l.length ∧ i = .int .i64 k ∧ Hid (WaitsRel w l k o wr)) (fun _ i _ => l.length - (intOf i).toNat)
  case atStart => exact ⟨0, Nat.zero_le _, rfl, H0⟩
  case round =>
    obtain ⟨k, hk, rfl, hT⟩ := hrel
    clear c4
    by_cases hlt : k < l.length
    · obtain ⟨x, hx⟩ : ∃ x, l[k]? = some x := ⟨_, List.getElem?_eq_getElem hlt⟩
      have hl' := HL.out
      obtain ⟨p, hp, hpx⟩ : ∃ p, l'[k]? = some p ∧ p.1 = x := by
        rw [← hl', List.getElem?_map] at hx
        cases hq : l'[k]? with
        | none => rw [hq] at hx; cases hx
        | some p => rw [hq] at hx; exact ⟨p, rfl, by simpa using hx⟩
      have hbody := HE.out p (List.mem_of_getElem? hp)
      have hsz := hsl.out x (List.mem_of_getElem? hx)
      rw [hpx] at hbody
      obtain ⟨b, o, cap, cur, he, hcur, hcap, hcells⟩ := HR.out.at (by omega)
      have hcur' : wr.heap[b]? = some (.cells cur 31 (0, 0)) := hT.out.2.2.blk hcur (fun x => x)
      have k0 : wr.cell? ⟨b, o + k, none⟩ = some p.2 := (blk_cell hcur' _).trans ((hcells _ (by omega)).trans (by rw [List.getElem?_map, hp]; rfl))
      obtain ⟨B2, c2, hp2⟩ := hbody.1.form
      rw [hp2] at k0
      cases he
      have hi : (k : Int) < l.length := by omega
      have hi0 : (0 : Int) ≤ (k : Int) := by omega
      have HC : Hid (Calls Try.prog 25 #[.slice B2 x.size c2] wr (Cloned wr x)) := clone_any _ _ wr (RowOf.src ((hbody.1.mod hT.out.2.2 (fun _ _ x => x)) |> fun h => by rw [hp2] at h; exact h) (byteCells_one _)) hsz
      have HX := Lib.hid hx
      obtain ⟨⟨lo, ho1, ho2, ho3⟩, ho4, ho5⟩ := hT.out
      have hlk : (l.take k).length = k := by rw [List.length_take]; omega
      rw [hlk] at ho2
      have HO1 := Lib.hid ho1
      have HO2 := Lib.hid ho2
      have HO3 := Lib.hid ho3
      have HO4 := Lib.hid ho4
      have HO5 := Lib.hid ho5
      clear hx hp hpx hbody hsz hcur hcells hcur' hp2 hl' hcap ho1 ho2 ho3 ho4 ho5 hlk
      go_wp2_with fail
      refine HC.out.mono ?_
      rintro e w1 ⟨v', rfl, hb, hm⟩
      obtain ⟨A3, c3, rfl⟩ := hb.1.form
      have HB := Lib.hid hb
      have HM := Lib.hid hm
      clear hb hm
      go_wp2_with (at_builtin; refine wpList_append_row (by rfl) _ _ 38 (by rfl) i0 (.slice none 0 0) 24 Try.underlying38 hii hz0' hz1' hz2' (by rfl) (by omega) (by rfl) ((HO2.out.mod HM.out (fun _ _ x => x)).alloc _) (bodies_one HO3.out) _ 1 [.slice A3 x.size c3] (by rfl) (SrcOk.block (blk_new w1 _) rfl (fun j u hu => by rw [Nat.zero_add]; simpa using hu) (by simp [Value.oneCell'])) (by unfold maxLen; omega) (by omega) ?_)
      intro v2 w2 hrow hgrow hat
      have HN := Lib.hid (waits_step HO1.out HO2.out HO3.out HO4.out HO5.out hlt HX.out (HM.out.alloc _) ⟨HB.out.1.alloc _, HB.out.2⟩ hgrow hrow (hat.imp id fun h => h.trans (by simp)))
      clear hrow hgrow hat
      go_wp2
      go_roundw
      case rel => exact ⟨k + 1, by omega, by go_num, HN⟩
      case measure => simp [intOf]; omega
    · obtain rfl : k = l.length := by omega
      go_wp2
      go_ret
      exact ⟨_, rfl, hT.out⟩

/-- Numbered from the next on. -/
def numbered : Nat → List ByteArray → List It
  | _, [] => []
  | n, b :: r => ⟨n + 1, b⟩ :: numbered (n + 1) r
theorem numbered_length : ∀ (l : List ByteArray) (n : Nat), (numbered n l).length = l.length
  | [], _ => rfl
  | b :: r, n => by unfold numbered; rw [List.length_cons, List.length_cons, numbered_length r]
theorem numbered_snoc : ∀ (l : List ByteArray) (n : Nat) (b : ByteArray), numbered n (l ++ [b]) = numbered n l ++ [⟨n + l.length + 1, b⟩]
  | [], n, b => rfl
  | c :: r, n, b => by
    show _ :: numbered (n + 1) (r ++ [b]) = _
    rw [numbered_snoc r]
    show _ = _ :: (numbered (n + 1) r ++ _)
    rw [List.length_cons, show n + 1 + r.length + 1 = n + (r.length + 1) + 1 by omega]
theorem numbered_get : ∀ (l : List ByteArray) (n i : Nat), (numbered n l)[i]? = (l[i]?).map fun b => ⟨n + i + 1, b⟩
  | [], _, _ => rfl
  | b :: r, n, 0 => rfl
  | b :: r, n, i + 1 => by
    show (numbered (n + 1) r)[i]? = (r[i]?).map _
    rw [numbered_get r, show n + 1 + i + 1 = n + (i + 1) + 1 by omega]
theorem numbered_mem {l : List ByteArray} {n : Nat} {x : It} (h : x ∈ numbered n l) : n < x.num ∧ x.num ≤ n + l.length ∧ x.body ∈ l := by
  obtain ⟨i, hi⟩ := List.mem_iff_getElem?.1 h
  rw [numbered_get] at hi
  cases hb : l[i]? with
  | none => rw [hb] at hi; cases hi
  | some b =>
    rw [hb] at hi
    have e : (⟨n + i + 1, b⟩ : It) = x := by simpa using hi
    have hlt := (List.getElem?_eq_some_iff.1 hb).1
    subst e
    exact ⟨by show n < n + i + 1; omega, by show n + i + 1 ≤ _; omega, List.mem_of_getElem? hb⟩
def Shp.fillN (s : Shp) (k : Nat) : Shp := { s with out := s.out ++ numbered s.last (s.waits.take k), waits := s.waits.drop k, last := s.last + k }
/-- How many go. -/
def Shp.goes (s : Shp) : Nat := min s.waits.length (s.win - s.out.length)
def Shp.news (s : Shp) : List It := numbered s.last (s.waits.take s.goes)
def Shp.filled (s : Shp) : Shp := { s.fillN s.goes with p := if (s.fillN s.goes).out = [] then s.p else s.p.start }
theorem Shp.fillN_zero (s : Shp) : s.fillN 0 = s := by
  unfold Shp.fillN
  simp [numbered]
/-- While fill fills. -/
def FillRel (w : World) (B pb : Nat) (ov0 wv0 : Value) (s : Shp) (j : Nat) (wr : World) : Prop :=
  ∃ ov wv, ShipAt wr B pb ov wv (s.fillN j) ∧ Mod (Foot B pb ov0 wv0) w wr ∧ (∀ k, ov.ownBlock = some k → ov0.ownBlock = some k ∨ w.heap.size ≤ k) ∧ ∀ k, wv.ownBlock = some k → wv0.ownBlock = some k
theorem BodiesAt.tail {N : Nat → Prop} {w : World} {b : Nat} {o m c : Nat} {x : ByteArray} {r : List ByteArray} (h : BodiesAt N w (.slice (some ⟨b, o, none⟩) (m + 1) (c + 1)) (x :: r)) (hm : m = r.length) : BodiesAt N w (.slice (some ⟨b, if c = 0 then o else o + 1, none⟩) m c) r := by
  subst hm
  obtain ⟨l', h1, h2, h3⟩ := h
  cases l' with
  | nil => cases h1
  | cons p l' =>
    simp only [List.map_cons, List.cons.injEq] at h1
    refine ⟨l', h1.2, ?_, fun p hp => h3 p (List.mem_cons_of_mem _ hp)⟩
    have := RowOf.tail h2
    exact this
theorem fill_next {w u u2 : World} {B pb : Nat} {ov0 wv0 ov wv ov' : Value} {s : Shp} {j : Nat} {b : ByteArray} {r : List ByteArray} {rb ro c : Nat} {bv : Value} {lo : List (It × Value)} (hw : s.waits.drop j = b :: r) (hwv : wv = .slice (some ⟨rb, ro, none⟩) (r.length + 1) (c + 1))
    (hB : u.heap[B]? = some (.cells #[.int .i64 s.win, .int .i64 s.que, .pointer (some ⟨pb, 0, none⟩), ov, wv, .int .u64 ((s.last + j : Nat) + 1)] 69 (0, 0))) (hR : ShipRest u pb ov wv (s.fillN j)) (hM : Mod (Foot B pb ov0 wv0) w u)
    (ho : ∀ k, ov.ownBlock = some k → ov0.ownBlock = some k ∨ w.heap.size ≤ k) (hwo : ∀ k, wv.ownBlock = some k → wv0.ownBlock = some k)
    (h1 : lo.map (·.1) = (s.fillN j).out) (h3 : ∀ p ∈ lo, BytesAt anyN u p.2 p.1.body) (hbv : BytesAt anyN u bv b)
    (hg : u.grownBy u2 ov.ownBlock) (hrow : RowOf u2 45 2 ov' ((s.fillN j).out.length + 1) (flat lo ++ [.int .u64 ((s.last + j : Nat) + 1), bv])) (hat : ov'.ownBlock = ov.ownBlock ∨ ov'.ownBlock = some u.heap.size) :
    FillRel w B pb ov0 wv0 s (j + 1) ((u2.setCell ⟨B, 3, none⟩ ov').setCell ⟨B, 4, none⟩ (.slice (some ⟨rb, if c = 0 then ro else ro + 1, none⟩) r.length c)) := by
  have hjl : j < s.waits.length := by
    have : (s.waits.drop j).length = (b :: r).length := by rw [hw]
    rw [List.length_drop, List.length_cons] at this
    omega
  have htk : s.waits.take (j + 1) = s.waits.take j ++ [b] := by
    rw [List.take_add_one]
    congr 1
    rw [← List.head?_drop, hw]
    rfl
  have hdr : s.waits.drop (j + 1) = r := by
    rw [← List.drop_drop, hw]
    rfl
  obtain ⟨cu, hcu⟩ : ∃ cu, ∀ k, ov.ownBlock = some k → u.heap[k]? = some (.cells cu 45 (0, 0)) := by
    obtain ⟨_, _, hrw, _⟩ := hR.2.1
    cases hob : ov.ownBlock with
    | none => exact ⟨#[], fun k hk => by cases hk⟩
    | some q =>
      obtain ⟨cu, hc⟩ := hrw.block hob
      exact ⟨cu, fun k hk => by cases hk; exact hc⟩
  have hkt : KeepT [5, 31, 76, 69] u u2 := KeepT.grown hg (fun k hk => ⟨cu, _, hcu k hk, by decide⟩)
  have hB2 := hkt _ _ _ (by decide) hB
  have hs1 : KeepT [5, 31, 76, 45] u2 (u2.setCell ⟨B, 3, none⟩ ov') := KeepT.set hB2 (by decide) _
  have hB3 := blk_set hB2 3 ov'
  have hs2 : KeepT [5, 31, 76, 45] u2 ((u2.setCell ⟨B, 3, none⟩ ov').setCell ⟨B, 4, none⟩ (.slice (some ⟨rb, if c = 0 then ro else ro + 1, none⟩) r.length c)) := hs1.trans (KeepT.set hB3 (by decide) _)
  have hout : (s.fillN (j + 1)).out = (s.fillN j).out ++ [⟨s.last + j + 1, b⟩] := by
    show s.out ++ numbered s.last (s.waits.take (j + 1)) = s.out ++ numbered s.last (s.waits.take j) ++ _
    rw [htk, numbered_snoc, List.length_take, Nat.min_eq_left (by omega), List.append_assoc]
  have hitems : ItemsAt anyN u2 ov' ((s.fillN j).out ++ [⟨s.last + j + 1, b⟩]) := by
    refine ⟨lo ++ [(⟨s.last + j + 1, b⟩, bv)], by rw [List.map_append, h1]; rfl, ?_, fun p hp => ?_⟩
    · rw [flat_append, List.length_append]
      exact hrow
    · rcases List.mem_append.1 hp with hp | hp
      · exact (h3 p hp).keepT hkt (by decide)
      · obtain rfl := List.mem_singleton.1 hp
        exact hbv.keepT hkt (by decide)
  have hbod : BodiesAt anyN u wv (s.fillN j).waits := hR.2.2
  have hbod2 : BodiesAt anyN u (.slice (some ⟨rb, if c = 0 then ro else ro + 1, none⟩) r.length c) r := by
    have hb0 : (s.fillN j).waits = b :: r := hw
    rw [hb0, hwv] at hbod
    exact hbod.tail rfl
  refine ⟨ov', .slice (some ⟨rb, if c = 0 then ro else ro + 1, none⟩) r.length c, ⟨(blk_set hB3 4 _).trans ?_, hR.1.keepT (hkt.mono (by decide)) (by decide : 76 ∈ [76]) |>.keepT hs2 (by decide), ?_, ?_⟩, ?_, fun k hk => ?_, fun k hk => ?_⟩
  · rfl
  · rw [hout]
    exact hitems.keepT hs2 (by decide) (by decide)
  · show BodiesAt anyN _ _ (s.waits.drop (j + 1))
    rw [hdr]
    exact (hbod2.keepT hkt (by decide) (by decide)).keepT hs2 (by decide) (by decide)
  · have hm2 : Mod (Foot B pb ov0 wv0) w u2 := hM.trans' (Mod.of_grown (S := fun k => ov.ownBlock = some k) hg (fun k e _ => e)) (fun i hi hk => by
      rcases ho i hk with h | h
      · exact .inr (.inr (.inl h))
      · omega)
    exact (hm2.set (fun _ => .inl rfl) _).set (fun _ => .inl rfl) _
  · rcases hat with e | e
    · exact ho k (by rw [← e]; exact hk)
    · rw [hk] at e; cases e; exact .inr hM.size
  · exact hwo k (by rw [hwv]; exact hk)
end Go.Proofs.Ytcgfbbfepopinaa
