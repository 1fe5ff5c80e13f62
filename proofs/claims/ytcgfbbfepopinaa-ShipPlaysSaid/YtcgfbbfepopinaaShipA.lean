/-
  Package ship: bytes, items; bytes.Clone, told.
-/
import Derived.Test.YtcgfbbfepopinaaPace
import Derived.Test.YtcgfbbfepopinaaRowOf
import Derived.StillTailTactics
import Derived.Outline
import Derived.WalkSpells
import Derived.Deep.RegionHeld3
namespace Go.Proofs.Ytcgfbbfepopinaa
open Go.RowKit Go.Shoal

/-- A slice of bytes, in a block of N. -/
def BytesAt (N : Nat → Prop) (w : World) (v : Value) (s : ByteArray) : Prop := RowOf w 5 1 v s.size (byteCells s) ∧ ∀ k, v.ownBlock = some k → N k
/-- An item. -/
structure It where
  num : Nat
  body : ByteArray
deriving Inhabited
def flat (l : List (It × Value)) : List Value := l.flatMap fun p => [.int .u64 p.1.num, p.2]
/-- A slice of items, their bodies in blocks of N. -/
def ItemsAt (N : Nat → Prop) (w : World) (v : Value) (l : List It) : Prop :=
  ∃ l' : List (It × Value), l'.map (·.1) = l ∧ RowOf w 45 2 v l.length (flat l') ∧ ∀ p ∈ l', BytesAt N w p.2 p.1.body
theorem flat_length (l : List (It × Value)) : (flat l).length = l.length * 2 := by
  induction l with
  | nil => rfl
  | cons p l ih =>
    unfold flat at *
    rw [List.flatMap_cons, List.length_append, ih]
    simp
    omega
theorem flat_append (a b : List (It × Value)) : flat (a ++ b) = flat a ++ flat b := List.flatMap_append
theorem flat_get (l : List (It × Value)) (i : Nat) (p : It × Value) (h : l[i]? = some p) : (flat l)[i * 2]? = some (.int .u64 p.1.num) ∧ (flat l)[i * 2 + 1]? = some p.2 := by
  induction l generalizing i with
  | nil => simp at h
  | cons q l ih =>
    cases i with
    | zero =>
      have : q = p := by simpa using h
      subst this
      exact ⟨rfl, rfl⟩
    | succ i =>
      have e : flat (q :: l) = Value.int .u64 q.1.num :: q.2 :: flat l := rfl
      rw [e]
      have := ih i (by simpa using h)
      refine ⟨?_, ?_⟩
      · rw [show (i + 1) * 2 = i * 2 + 1 + 1 by omega, List.getElem?_cons_succ, List.getElem?_cons_succ]; exact this.1
      · rw [show (i + 1) * 2 + 1 = i * 2 + 1 + 1 + 1 by omega, List.getElem?_cons_succ, List.getElem?_cons_succ]; exact this.2
theorem BytesAt.one {N : Nat → Prop} {w : World} {v : Value} {s : ByteArray} (h : BytesAt N w v s) : v.oneCell' = true := by
  obtain ⟨A, c, rfl⟩ := h.1.form
  rfl
theorem flat_one {N : Nat → Prop} {w : World} {l : List (It × Value)} (h : ∀ p ∈ l, BytesAt N w p.2 p.1.body) : ∀ u ∈ flat l, u.oneCell' = true := by
  intro u hu
  obtain ⟨p, hp, hu⟩ := List.mem_flatMap.1 hu
  rcases List.mem_cons.1 hu with rfl | hu
  · rfl
  · rcases List.mem_cons.1 hu with rfl | hu
    · exact (h p hp).one
    · cases hu
theorem byteCells_one (s : ByteArray) : ∀ u ∈ byteCells s, u.oneCell' = true := fun u hu => by
  obtain ⟨_, _, rfl⟩ := List.mem_map.1 hu
  rfl
theorem BytesAt.mod {S N : Nat → Prop} {w w' : World} {v : Value} {s : ByteArray} (h : BytesAt N w v s) (hm : Mod S w w') (hs : ∀ k, k < w.heap.size → N k → ¬ S k) : BytesAt N w' v s :=
  ⟨h.1.mod hm (fun b hb => hs b (h.1.lt hb) (h.2 b hb)), h.2⟩
theorem BytesAt.mono {N M : Nat → Prop} {w : World} {v : Value} {s : ByteArray} (h : BytesAt N w v s) (hN : ∀ k, k < w.heap.size → N k → M k) : BytesAt M w v s := ⟨h.1, fun k hk => hN k (h.1.lt hk) (h.2 k hk)⟩
theorem ItemsAt.mod {S N : Nat → Prop} {w w' : World} {v : Value} {l : List It} (h : ItemsAt N w v l) (hm : Mod S w w') (hs : ∀ k, k < w.heap.size → N k → ¬ S k) (hv : ∀ k, v.ownBlock = some k → ¬ S k) : ItemsAt N w' v l := by
  obtain ⟨l', h1, h2, h3⟩ := h
  exact ⟨l', h1, h2.mod hm hv, fun p hp => (h3 p hp).mod hm hs⟩
theorem ItemsAt.mono {N M : Nat → Prop} {w : World} {v : Value} {l : List It} (h : ItemsAt N w v l) (hN : ∀ k, k < w.heap.size → N k → M k) : ItemsAt M w v l := by
  obtain ⟨l', h1, h2, h3⟩ := h
  exact ⟨l', h1, h2, fun p hp => (h3 p hp).mono hN⟩
theorem ItemsAt.lt {N : Nat → Prop} {w : World} {v : Value} {l : List It} (h : ItemsAt N w v l) {k : Nat} (hk : v.ownBlock = some k) : k < w.heap.size := by
  obtain ⟨l', h1, h2, h3⟩ := h
  exact h2.lt hk

theorem Try.infoU8 : (Try.prog.info? 5).map (fun i => (i.zero, i.size, i.bytes)) = some (some (.int .u8 0), 1, 1) := by kernel_rfl
theorem Try.infoItem : (Try.prog.info? 45).map (fun i => (i.zero, i.size, i.bytes)) = some (some (.agg #[.int .u64 0, .slice none 0 0]), 2, 32) := by kernel_rfl
/-- What Clone leaves. -/
def Cloned (w : World) (s : ByteArray) (e : Ending) (w' : World) : Prop := ∃ v', e = .returned v' ∧ BytesAt (fun k => w.heap.size ≤ k) w' v' s ∧ Mod (fun _ => False) w w'
set_option maxHeartbeats 1000000 in
theorem clone_any (v : Value) (s : ByteArray) (w : World) (h : SrcOk w v s.size 1 (byteCells s)) (hs : s.size ≤ 1000) : Calls Try.prog 25 #[v] w (Cloned w s) := by
  obtain ⟨i0, hii, hz0, hz1, hz2⟩ := info_parts Try.infoU8
  have HS := Lib.hid h
  have hnil := fun (a : Option Addr) (n c : Nat) (w : World) => Lib.run_eql_slice_nil (P := Try.prog) w 31 5 a n c 0 0 Try.underlying31
  rcases h with ⟨rfl, h0, hb⟩ | ⟨a, cap, rfl, _⟩
  · have HC : Hid (Cloned w s (.returned (.slice none 0 0)) w) := ⟨_, rfl, ⟨by rw [hb, h0]; exact RowOf.nil _ _ _, fun k hk => by cases hk⟩, Mod.refl _ _⟩
    clear h0 hb
    go_enter Try.func25, Try.ntmps25
    go_wp2
    go_ret
    exact HC.out
  · have HO : Hid ((w.alloc (Obj.cells #[] 5)).ownsRow w.heap.size 5 1 (.slice (some ⟨w.heap.size, 0, none⟩) 0 0) 0 []) := World.ownsRow_made w #[] 0 (Nat.le_refl _) (by unfold maxLen; omega) rfl
    have HB : Hid (SrcOk (w.alloc (Obj.cells #[] 5)) (.slice (some a) s.size cap) s.size 1 (byteCells s)) := HS.out.below ((Below.refl _ _).alloc (Nat.le_refl _) _)
    go_enter Try.func25, Try.ntmps25
    go_wp2_with (at_builtin; refine wpList_append_src (by rfl) _ _ 31 (by rfl) w.heap.size 5 i0 (.int .u8 0) 1 1 Try.underlying31 hii hz0 hz1 hz2 rfl (by omega) (.slice (some ⟨w.heap.size, 0, none⟩) 0 0) 0 [] (by rfl) HO.out (.slice (some a) s.size cap) s.size (byteCells s) (by rfl) HB.out (by unfold maxLen; omega) (by omega) (by simp) ?_)
    intro v1 w1 hown hgrow hat
    try simp only [Nat.zero_add, List.nil_append] at hown
    have HC : Hid (Cloned w s (.returned v1) w1) := ⟨v1, rfl, ⟨RowOf.of_own hown, own_base hown⟩, ((Mod.refl (fun _ => False) w).alloc _).grown hgrow (fun k hk => by cases hk; exact Nat.le_refl _)⟩
    clear hown hgrow hat
    go_wp2
    go_ret
    exact HC.out
/-- While told tells. -/
def ToldRel (w : World) (l : List It) (k : Nat) (v : Value) (wr : World) : Prop :=
  ItemsAt (fun q => w.heap.size ≤ q) wr v (l.take k) ∧ (∀ q, v.ownBlock = some q → w.heap.size ≤ q) ∧ Mod (fun _ => False) w wr
/-- What told leaves. -/
def Told (w : World) (l : List It) (e : Ending) (w' : World) : Prop := ∃ v, e = .returned v ∧ ToldRel w l l.length v w'
theorem told_step {w wr w1 w2 : World} {l : List It} {k : Nat} {v v' u : Value} {x : It} {lo : List (It × Value)} (h1 : lo.map (·.1) = l.take k) (h2 : RowOf wr 45 2 v k (flat lo)) (h3 : ∀ p ∈ lo, BytesAt (fun q => w.heap.size ≤ q) wr p.2 p.1.body)
    (h4 : ∀ q, v.ownBlock = some q → w.heap.size ≤ q) (h5 : Mod (fun _ => False) w wr) (hk : k < l.length) (hx : l[k]? = some x)
    (m1 : Mod (fun _ => False) wr w1) (hb : BytesAt (fun q => wr.heap.size ≤ q) w1 u x.body) (hg : w1.grownBy w2 v.ownBlock) (hrow : RowOf w2 45 2 v' (k + 1) (flat lo ++ [.int .u64 x.num, u]))
    (hat : v'.ownBlock = v.ownBlock ∨ v'.ownBlock = some w1.heap.size) : ToldRel w l (k + 1) v' w2 := by
  have hlen1 : (l.take (k + 1)).length = k + 1 := by rw [List.length_take]; omega
  have hsz : w.heap.size ≤ w1.heap.size := Nat.le_trans h5.size m1.size
  have hty : ∀ q, v.ownBlock = some q → ∀ b cs, w1.heap[b]? = some (.cells cs 5 (0, 0)) → b ≠ q := fun q hq b cs hb e => by
    obtain ⟨cur, hc⟩ := (h2.mod m1 (fun _ _ x => x)).block hq
    subst e
    rw [hc] at hb
    cases hb
  have keep : ∀ N y s, BytesAt N w1 y s → BytesAt N w2 y s := fun N y s hy => ⟨hy.1.keep fun b hb => hg.block b (hy.1.lt hb) (fun e => by
    obtain ⟨cs, hcs⟩ := hy.1.block hb
    exact hty b e.symm b cs hcs rfl), hy.2⟩
  refine ⟨⟨lo ++ [(x, u)], ?_, ?_, fun p hp => ?_⟩, fun q hq => ?_, ?_⟩
  · rw [List.map_append, h1, List.take_add_one, hx]
    rfl
  · rw [flat_append, hlen1]
    exact hrow
  · rcases List.mem_append.1 hp with hp | hp
    · exact keep _ _ _ ((h3 p hp).mod m1 (fun _ _ _ x => x))
    · obtain rfl := List.mem_singleton.1 hp
      exact keep _ _ _ (hb.mono (fun q _ hq => Nat.le_trans h5.size hq))
  · rcases hat with e | e
    · exact h4 q (by rw [← e]; exact hq)
    · rw [hq] at e; cases e; exact hsz
  · exact (h5.trans m1).grown hg h4
theorem two_cells {w : World} {z : Nat} {a b : Value} {t : TypeId} (h : w.heap[z]? = some (.cells #[a, b] t (0, 0))) : w.cell? ⟨z, 0, none⟩ = some a ∧ w.cell? ⟨z, 1, none⟩ = some b := ⟨(blk_cell h 0).trans rfl, (blk_cell h 1).trans rfl⟩
set_option maxHeartbeats 2000000 in
theorem told_any (N : Nat → Prop) (v : Value) (l : List It) (w : World) (h : ItemsAt N w v l) (hl : l.length ≤ 1000) (hs : ∀ x ∈ l, x.body.size ≤ 1000) : Calls Try.prog 27 #[v] w (Told w l) := by
  obtain ⟨i0, hii, hz0', hz1', hz2'⟩ := info_parts Try.infoItem
  obtain ⟨l', h1, h2, h3⟩ := h
  have H0 : Hid (ToldRel w l 0 (.slice none 0 0) w) := ⟨⟨[], rfl, RowOf.nil _ _ _, fun p hp => (by cases hp)⟩, fun q hq => (by cases hq), Mod.refl _ _⟩
  have HR := Lib.hid h2
  have HE := Lib.hid h3
  have HL := Lib.hid h1
  have hsl : Hid (∀ x ∈ l, x.body.size ≤ 1000) := hs
  obtain ⟨A, c, rfl⟩ := h2.form
  clear h1 h2 h3 hs
  go_enter Try.func27, Try.ntmps27
  go_wp2
  go_loopw [3, 8] (fun o i wr => ∃ k : Nat, k ≤ l.length ∧ i = .int .i64 k ∧ Hid (ToldRel w l k o wr)) (fun _ i _ => l.length - (intOf i).toNat)
  case atStart => exact ⟨0, Nat.zero_le _, rfl, H0⟩
  case round =>
    obtain ⟨k, hk, rfl, hT⟩ := hrel
    by_cases hlt : k < l.length
    · obtain ⟨x, hx⟩ : ∃ x, l[k]? = some x := ⟨_, List.getElem?_eq_getElem hlt⟩
      have hl' := HL.out
      obtain ⟨p, hp, hpx⟩ : ∃ p, l'[k]? = some p ∧ p.1 = x := by
        rw [← hl', List.getElem?_map] at hx
        cases hq : l'[k]? with
        | none => rw [hq] at hx; cases hx
        | some p => rw [hq] at hx; exact ⟨p, rfl, by simpa using hx⟩
      have hbody := HE.out p (List.mem_of_getElem? hp)
      have hsz := hsl.out x (List.mem_of_getElem? hx)
      rw [hpx] at hbody
      obtain ⟨b, o, cap, cur, he, hcur, hcap, hcells⟩ := HR.out.at (by omega)
      obtain ⟨g0, g1⟩ := flat_get l' k p hp
      rw [hpx] at g0
      have hll : l'.length = l.length := by rw [← hl', List.length_map]
      have hcur' : wr.heap[b]? = some (.cells cur 45 (0, 0)) := hT.out.2.2.blk hcur (fun x => x)
      have k0 : wr.cell? ⟨b, o + k * 2, none⟩ = some (.int .u64 x.num) := (blk_cell hcur' _).trans ((hcells _ (by omega)).trans g0)
      have k1 : wr.cell? ⟨b, o + k * 2 + 1, none⟩ = some p.2 := (blk_cell hcur' _).trans ((by rw [Nat.add_assoc]; exact hcells _ (by omega) : cur[o + k * 2 + 1]? = _).trans g1)
      obtain ⟨B2, c2, hp2⟩ := hbody.1.form
      rw [hp2] at k1
      cases he
      have hi : (k : Int) < l.length := by omega
      have hi0 : (0 : Int) ≤ (k : Int) := by omega
      have HC : Hid (∀ W, Mod (fun _ => False) wr W → Calls Try.prog 25 #[.slice B2 x.body.size c2] W (Cloned W x.body)) := fun W hm => clone_any _ _ W (RowOf.src (((hbody.1.mod hT.out.2.2 (fun _ _ x => x)).mod hm (fun _ _ x => x)) |> fun h => by rw [hp2] at h; exact h) (byteCells_one _)) hsz
      have HX := Lib.hid hx
      clear hx hp hpx hbody hsz hcur hcells g0 g1 hll hcur' hp2 hl' hcap
      have hz0 : (wr.alloc (Obj.cells #[.int .u64 x.num, .slice B2 x.body.size c2] 45)).drew.heap[wr.heap.size]? = some (.cells #[.int .u64 x.num, .slice B2 x.body.size c2] 45 (0, 0)) := blk_new wr _
      have hM0 : Mod (fun _ => False) wr (wr.alloc (Obj.cells #[.int .u64 x.num, .slice B2 x.body.size c2] 45)).drew := ((Mod.refl _ _).alloc _).drew
      obtain ⟨⟨lo, ho1, ho2, ho3⟩, ho4, ho5⟩ := hT.out
      have hlk : (l.take k).length = k := by rw [List.length_take]; omega
      rw [hlk] at ho2
      have HO1 := Lib.hid ho1
      have HO2 := Lib.hid ho2
      have HO3 := Lib.hid ho3
      have HO4 := Lib.hid ho4
      have HO5 := Lib.hid ho5
      have HO := Lib.hid (fun q hq => ho2.lt (b := q) hq)
      clear ho1 ho2 ho3 ho4 ho5 hlk
      go_wp2_with fail
      go_region_held3 (fun w' => w'.cell? ⟨wr.heap.size, 0, none⟩ = some (.int .u64 x.num) ∧ w'.cell? ⟨wr.heap.size, 1, none⟩ = some (.slice B2 x.body.size c2)) (first | exact two_cells (by assumption) | exact two_cells (blk_alloc (by assumption) _)) (first | (go_at_call 25; refine (HC.out _ hM0).mono ?_; rintro e w1 ⟨v', rfl, hb, hm⟩; have hz1 := hm.blk hz0 (fun x => x); obtain ⟨A3, c3, rfl⟩ := hb.1.form) | (refine step_append_row (by rfl) _ _ 28 (by rfl) i0 (.agg #[.int .u64 0, .slice none 0 0]) 32 Try.underlying28 hii hz0' hz1' hz2' (by rfl) (by omega) (by rfl) (((HO2.out.mod hM0 (fun _ _ x => x)).mod hm (fun _ _ x => x)).alloc _) (flat_one HO3.out) _ 1 [.int .u64 x.num, .slice A3 x.body.size c3] (by rfl) (SrcOk.block (blk_new w1 _) rfl (fun j u hu => by rw [Nat.zero_add]; simpa using hu) (by simp [Value.oneCell'])) (by unfold maxLen; omega) (by omega) ?_; intro v2 w2 hrow hgrow hat; have hz2 := blk_grown (blk_alloc hz1 _) hgrow (fun q hq e => by have := HO.out q hq; omega)))
      have HN := Lib.hid (told_step HO1.out HO2.out HO3.out HO4.out HO5.out hlt HX.out ((hM0.trans hm).alloc _) (⟨hb.1.alloc _, fun q hq => by have := hb.2 q hq; have := hM0.size; omega⟩) hgrow hrow hat)
      go_wp2
      go_roundw
      case rel => exact ⟨k + 1, by omega, by go_num, HN⟩
      case measure => simp [intOf]; omega
    · obtain rfl : k = l.length := by omega
      go_wp2
      go_ret
      exact ⟨_, rfl, hT.out⟩
end Go.Proofs.Ytcgfbbfepopinaa
