/-
  What film reaches of package dset and of the reference's sets and digits (cut out of dset's texts).
-/
import Derived.Test.YtlklbdnlpljaiaaDoorFmB
import Derived.Test.YtlklbdnlpljaiaaDoorSets
import Derived.Test.YtlklbdnlpljaiaaDoorRowOf
import Derived.Laws.Bits128
import Derived.Laws.BytesString
import Derived.Deep.RegionWith
namespace Go.Proofs.YtlklbdnlpljaiaaDoor.Dst
open Go.RowKit Go.Shoal

/-- The bits of a number, n of them. -/
def bitsFrom (s : Nat) : Nat → Nat → List Nat
  | _, 0 => []
  | i, n + 1 => if s.testBit i then i :: bitsFrom s (i + 1) n else bitsFrom s (i + 1) n
def bitsOf (s : Nat) : List Nat := bitsFrom s 0 64
theorem bitsFrom_mem (s : Nat) : ∀ (n i : Nat) (x : Nat), x ∈ bitsFrom s i n ↔ (i ≤ x ∧ x < i + n ∧ s.testBit x = true)
  | 0, i, x => by
    constructor
    · intro h; cases h
    · rintro ⟨h1, h2, _⟩; omega
  | n + 1, i, x => by
    have ih := bitsFrom_mem s n (i + 1) x
    unfold bitsFrom
    by_cases hb : s.testBit i = true
    · rw [if_pos hb, List.mem_cons, ih]
      constructor
      · rintro (rfl | ⟨h1, h2, h3⟩)
        · exact ⟨Nat.le_refl _, by omega, hb⟩
        · exact ⟨by omega, by omega, h3⟩
      · rintro ⟨h1, h2, h3⟩
        by_cases e : x = i
        · exact .inl e
        · exact .inr ⟨by omega, by omega, h3⟩
    · rw [if_neg hb, ih]
      constructor
      · rintro ⟨h1, h2, h3⟩; exact ⟨by omega, by omega, h3⟩
      · rintro ⟨h1, h2, h3⟩
        by_cases e : x = i
        · rw [e] at h3; exact absurd h3 hb
        · exact ⟨by omega, by omega, h3⟩
theorem bitsFrom_rise (s : Nat) : ∀ (n i : Nat), (bitsFrom s i n).Pairwise (· < ·)
  | 0, _ => List.Pairwise.nil
  | n + 1, i => by
    unfold bitsFrom
    split
    · refine List.pairwise_cons.2 ⟨fun x hx => ?_, bitsFrom_rise s n (i + 1)⟩
      have := ((bitsFrom_mem s n (i + 1) x).1 hx).1
      omega
    · exact bitsFrom_rise s n (i + 1)
theorem bitsFrom_len (s : Nat) : ∀ (n i : Nat), (bitsFrom s i n).length ≤ n
  | 0, _ => Nat.le_refl _
  | n + 1, i => by
    have := bitsFrom_len s n (i + 1)
    unfold bitsFrom
    split
    · rw [List.length_cons]; omega
    · omega
theorem bitsOf_mem (s x : Nat) : x ∈ bitsOf s ↔ (x < 64 ∧ s.testBit x = true) := by
  unfold bitsOf
  rw [bitsFrom_mem]
  exact ⟨fun h => ⟨by omega, h.2.2⟩, fun h => ⟨Nat.zero_le _, by omega, h.2⟩⟩
theorem bitsOf_len (s : Nat) : (bitsOf s).length ≤ 64 := bitsFrom_len s 64 0
theorem bitsFrom_none (s : Nat) : ∀ (n i : Nat), (∀ x, i ≤ x → x < i + n → s.testBit x = false) → bitsFrom s i n = []
  | 0, _, _ => rfl
  | n + 1, i, h => by
    unfold bitsFrom
    rw [if_neg (by rw [h i (Nat.le_refl _) (by omega)]; decide)]
    exact bitsFrom_none s n (i + 1) (fun x h1 h2 => h x (by omega) (by omega))
theorem bitsFrom_same (s t : Nat) : ∀ (n i : Nat), (∀ x, i ≤ x → x < i + n → s.testBit x = t.testBit x) → bitsFrom s i n = bitsFrom t i n
  | 0, _, _ => rfl
  | n + 1, i, h => by
    unfold bitsFrom
    rw [h i (Nat.le_refl _) (by omega), bitsFrom_same s t n (i + 1) (fun x h1 h2 => h x (by omega) (by omega))]
theorem bitsFrom_first (s t k : Nat) : ∀ (n i : Nat), i ≤ k → k < i + n → (∀ x, x < k → s.testBit x = false) → s.testBit k = true → (∀ x, t.testBit x = (s.testBit x && decide (x ≠ k))) → bitsFrom s i n = k :: bitsFrom t i n
  | 0, i, h1, h2, _, _, _ => by omega
  | n + 1, i, h1, h2, h3, h4, h5 => by
    unfold bitsFrom
    by_cases e : i = k
    · subst e
      rw [if_pos h4, if_neg (by rw [h5]; simp)]
      congr 1
      refine bitsFrom_same s t n (i + 1) (fun x g1 g2 => ?_)
      rw [h5, decide_eq_true (show x ≠ i by omega), Bool.and_true]
    · have h6 := h3 i (by omega)
      rw [if_neg (by rw [h6]; decide), if_neg (by rw [h5, h6]; simp)]
      exact bitsFrom_first s t k n (i + 1) (by omega) (by omega) h3 h4 h5
theorem bitsFrom_succ (s i n : Nat) : bitsFrom s i (n + 1) = if s.testBit i then i :: bitsFrom s (i + 1) n else bitsFrom s (i + 1) n := rfl
set_option maxHeartbeats 1000000 in
theorem tz_core (x k idx : Nat) (w : World) (hx0 : ((x : Int) == 0) = false)
    (key : IntKind.u64.wrap (bits BinOp.and IntKind.u64 (x : Int) (IntKind.u64.wrap (-(x : Int))) * 285870213051353865) / 288230376151711744 = (idx : Int))
    (hi : idx < 64) (hk : k < 64) (hcell : w.cell? ⟨2, idx, none⟩ = some (.int .u8 k)) :
    Calls Tryd.prog 64 #[.int .u64 x] w fun e w' => e = .returned (.int .i64 k) ∧ w = w' := by
  go_enter Tryd.func64, Tryd.ntmps64
  go_wp2_with (simp only [key])
  go_ret
  exact ⟨rfl, rfl⟩
theorem tz_any (x : Nat) (w : World) (hx : x < 18446744073709551616) (hx0 : x ≠ 0) (hT : Tab w) :
    Calls Tryd.prog 64 #[.int .u64 x] w fun e w' => e = .returned (.int .i64 (Lib.ctz 64 x)) ∧ w = w' := by
  obtain ⟨hlow, hk⟩ := Lib.lowest_bit 64 x hx0 hx
  obtain ⟨hi, htab⟩ := Lib.deBruijn64_at _ hk
  have hcell := hT.2.1 _ hi
  rw [htab] at hcell
  exact tz_core x _ _ w (by simp; omega) (tz64_key x _ hx hx0 hlow) hi hk hcell

set_option maxHeartbeats 400000 in
theorem rin_any (s : Nat) (p : Int) (w : World) (hs : s < 18446744073709551616) : Calls Tryd.prog 58 #[.int .u64 s, .int .i64 p] w fun e w' => e = .returned (.bool (inSet s p)) ∧ w = w' := by
  by_cases h1 : 0 ≤ p
  · by_cases h2 : p ≤ 63
    · have HE := Lib.hid (has_bits s p hs h1 (by omega))
      have h4 : IntKind.u64.wrap p = p := by rw [IntKind.wrap_u64]; omega
      go_enter Tryd.func58, Tryd.ntmps58
      go_wp2
      go_ret
      exact ⟨by rw [← HE.out]; rfl, rfl⟩
    · have HE : Hid (inSet s p = false) := by show inSet s p = false; unfold inSet; rw [decide_eq_false (show ¬ p < 64 by omega), Bool.and_false, Bool.false_and]
      go_enter Tryd.func58, Tryd.ntmps58
      go_wp2
      go_ret
      exact ⟨by rw [HE.out]; rfl, rfl⟩
  · have HE : Hid (inSet s p = false) := by show inSet s p = false; unfold inSet; rw [decide_eq_false h1, Bool.false_and, Bool.false_and]
    go_enter Tryd.func58, Tryd.ntmps58
    go_wp2
    go_ret
    exact ⟨by rw [HE.out]; rfl, rfl⟩

/-! The lowest bit is struck. -/
theorem low_struck (k m : Nat) (x : Nat) : ((2 ^ k * (2 * m + 1)) &&& (2 ^ k * (2 * m + 1) - 1)).testBit x = ((2 ^ k * (2 * m + 1)).testBit x && decide (x ≠ k)) := by
  have hp := Nat.two_pow_pos k
  have e1 : 2 ^ k * (2 * m + 1) = 2 ^ k * (2 * m + 1) + 0 := rfl
  have e2 : 2 ^ k * (2 * m + 1) - 1 = 2 ^ k * (2 * m) + (2 ^ k - 1) := by rw [Nat.mul_add, Nat.mul_one]; omega
  rw [Nat.testBit_and, e2]
  have h1 : (2 ^ k * (2 * m + 1)).testBit x = if x < k then false else (2 * m + 1).testBit (x - k) := by
    have := Nat.testBit_two_pow_mul_add (2 * m + 1) (b := 0) (i := k) hp x
    rw [Nat.add_zero] at this
    rw [this]
    simp
  rw [h1, Nat.testBit_two_pow_mul_add _ (by omega)]
  by_cases h : x < k
  · simp [h]
  · simp only [h, if_false]
    by_cases e : x = k
    · subst e
      rw [Nat.sub_self]
      simp
    · obtain ⟨y, hy⟩ : ∃ y, x - k = y + 1 := ⟨x - k - 1, by omega⟩
      rw [hy, Nat.testBit_succ, Nat.testBit_succ, show (2 * m + 1) / 2 = m by omega, show 2 * m / 2 = m by omega]
      simp [e]
theorem bits_step (t : Nat) (ht : t < 18446744073709551616) (h0 : t ≠ 0) : bitsOf t = Lib.ctz 64 t :: bitsOf (t &&& (t - 1)) ∧ Lib.ctz 64 t < 64 := by
  obtain ⟨m, hm, hk⟩ := Lib.ctzFrom_spec 64 t (by omega) ht
  have hc : Lib.ctz 64 t = Lib.ctzFrom 64 t := by unfold Lib.ctz; rw [if_neg h0]
  rw [hc]
  generalize Lib.ctzFrom 64 t = k at *
  refine ⟨?_, hk⟩
  unfold bitsOf
  refine bitsFrom_first t (t &&& (t - 1)) k 64 0 (Nat.zero_le _) (by omega) (fun x hx => ?_) ?_ (fun x => ?_)
  · have := Nat.testBit_two_pow_mul_add (2 * m + 1) (b := 0) (i := k) (Nat.two_pow_pos k) x
    rw [Nat.add_zero] at this
    rw [hm, this, if_pos hx]
    simp
  · have := Nat.testBit_two_pow_mul_add (2 * m + 1) (b := 0) (i := k) (Nat.two_pow_pos k) k
    rw [Nat.add_zero] at this
    rw [hm, this, if_neg (Nat.lt_irrefl _), Nat.sub_self]
    simp
  · rw [hm]
    exact low_struck k m x
theorem Tryd.infoInt : (Tryd.prog.info? 3).map (fun i => (i.zero, i.size, i.bytes)) = some (some (.int .i64 0), 1, 8) := by kernel_rfl
def natV (l : List Nat) : List Value := l.map fun k : Nat => Value.int .i64 (k : Int)
theorem natV_one (l : List Nat) : ∀ u ∈ natV l, u.oneCell' = true := by
  intro u hu
  obtain ⟨k, _, rfl⟩ := List.mem_map.1 hu
  rfl
/-- A slice of ints, none below 0. -/
def Nats (w : World) (v : Value) (l : List Nat) : Prop := RowOf w 3 1 v l.length (natV l)
def NGave (w : World) (l : List Nat) (e : Ending) (w' : World) : Prop := ∃ v, e = .returned v ∧ Nats w' v l ∧ Mod (fun _ => False) w w'
def NRel (w : World) (l : List Nat) (v : Value) (wr : World) : Prop := Nats wr v l ∧ Mod (fun _ => False) w wr ∧ ∀ q, v.ownBlock = some q → w.heap.size ≤ q
theorem NRel.put {w wr w' : World} {l : List Nat} {v v' : Value} {x : Nat} (h : NRel w l v wr) (hr : RowOf w' 3 1 v' (l.length + 1) (natV l ++ [.int .i64 (x : Int)])) (hg : (wr.alloc (.cells #[.int .i64 (x : Int)] 3)).grownBy w' v.ownBlock)
    (ho : v'.ownBlock = v.ownBlock ∨ v'.ownBlock = some (wr.heap.size + 1)) : NRel w (l ++ [x]) v' w' := by
  refine ⟨?_, (h.2.1.alloc _).grown hg (fun k hk => h.2.2 k hk), fun q hq => ?_⟩
  · have e1 : (l ++ [x]).length = l.length + 1 := by simp
    have e2 : natV (l ++ [x]) = natV l ++ [.int .i64 (x : Int)] := by simp [natV]
    unfold Nats
    rw [e1, e2]
    exact hr
  · have := h.2.1.size
    rcases ho with ho | ho
    · exact h.2.2 q (ho ▸ hq)
    · rw [ho] at hq
      have := Option.some.inj hq
      omega
theorem and_less (t : Nat) (ht : t < 18446744073709551616) (h0 : t ≠ 0) : bits .and .u64 (t : Int) ((t : Int) - 1) = ((t &&& (t - 1) : Nat) : Int) := by
  have h := bits_and_u64_nat t (t - 1) ht (by omega)
  rw [show ((t - 1 : Nat) : Int) = (t : Int) - 1 by omega] at h
  exact h
set_option maxHeartbeats 2000000 in
theorem list_any (s : Nat) (w : World) (hs : s < 18446744073709551616) (hT : Tab w) : Calls Tryd.prog 49 #[.int .u64 s] w (NGave w (bitsOf s)) := by
  obtain ⟨i0, hii, hz0, hz1, hz2⟩ := info_parts Tryd.infoInt
  have HT := Lib.hid hT
  have HR0 : Hid (NRel w [] (.slice none 0 0) w) := ⟨RowOf.nil _ _ _, Mod.refl _ _, fun q hq => by cases hq⟩
  have hl64 := bitsOf_len s
  clear hT
  go_enter Tryd.func49, Tryd.ntmps49
  go_wp2
  go_loopg [0, 3] (bitsOf s).length (fun g q acc wr => ∃ (t : Nat) (done : List Nat) (v : Value), t < 18446744073709551616 ∧ g = (bitsOf t).length ∧ q = .int .u64 (t : Int) ∧ v = acc ∧ Hid (bitsOf s = done ++ bitsOf t ∧ NRel w done v wr))
  case atStart => exact ⟨s, [], _, hs, rfl, rfl, rfl, ⟨rfl, HR0⟩⟩
  case round =>
    obtain ⟨t, done, v, ht, rfl, rfl, rfl, hD⟩ := hrel
    obtain ⟨hb, hR⟩ := hD.out
    by_cases h0 : t = 0
    · subst h0
      have HE : Hid (NGave w (bitsOf s) (.returned v) wr) := by
        have e : bitsOf 0 = [] := rfl
        rw [e, List.append_nil] at hb
        exact ⟨v, rfl, by rw [hb]; exact hR.1, hR.2.1⟩
      clear hb hR hD
      go_wp2
      go_ret
      exact HE.out
    · obtain ⟨hst, hk⟩ := bits_step t ht h0
      have hal := and_less t ht h0
      have t0 : ((t : Int) != 0) = true := by rw [bne_iff_ne]; omega
      have HTZ := Lib.hid (tz_any t wr ht h0 (HT.out.mod hR.2.1 (fun x => x)))
      have ht1 : (1 : Int) ≤ (t : Int) := by omega
      have ht2 : (t : Int) ≤ 18446744073709551615 := by omega
      have hdl : done.length ≤ 64 := by
        have := congrArg List.length hb
        rw [List.length_append] at this
        omega
      have hlt' : t &&& (t - 1) < 18446744073709551616 := Nat.lt_of_le_of_lt Nat.and_le_left ht
      have HB : Hid (bitsOf s = (done ++ [Lib.ctz 64 t]) ++ bitsOf (t &&& (t - 1))) := by
        show _ = _
        rw [hb, hst]
        simp
      have HL : Hid ((bitsOf t).length = (bitsOf (t &&& (t - 1))).length + 1) := by show _ = _; rw [hst]; rfl
      have HR := Lib.hid hR
      clear hb hR hD hst h0
      generalize t &&& (t - 1) = t' at *
      generalize Lib.ctz 64 t = k at *
      have HRW : Hid (RowOf (wr.alloc (.cells #[.int .i64 (k : Int)] 3)) 3 1 v done.length (natV done)) := RowOf.alloc HR.out.1 _
      have HX : Hid (SrcOk (wr.alloc (.cells #[.int .i64 (k : Int)] 3)) (.slice (some ⟨wr.heap.size, 0, none⟩) 1 1) 1 1 [.int .i64 (k : Int)]) := SrcOk.block (blk_new wr _) rfl (fun j u hu => by rw [Nat.zero_add]; simpa using hu) (by simp [Value.oneCell'])
      have HDL := Lib.hid hdl
      clear hdl
      go_wp2_with fail
      refine HTZ.out.mono ?_
      rintro e w1 ⟨rfl, rfl⟩
      go_wp2_with (at_builtin; refine wpList_append_row (by rfl) _ _ 79 (by rfl) i0 (.int .i64 0) 8 Tryd.underlying79 hii hz0 hz1 hz2 (by rfl) (by omega) (by rfl) HRW.out (natV_one _) _ 1 [.int .i64 (k : Int)] (by rfl) HX.out (by have := HDL.out; unfold maxLen; omega) (by have := HDL.out; omega) ?_)
      intro v' w' hv1 hv2 hv3
      have HE : Hid (bitsOf s = (done ++ [k]) ++ bitsOf t' ∧ NRel w (done ++ [k]) v' w') := ⟨HB.out, HR.out.put hv1 hv2 (by simpa using hv3)⟩
      clear hv1 hv2 hv3 HRW HX HR HB
      go_wp2
      go_roundg (bitsOf t').length
      case measure => have := HL.out; omega
      case rel => exact ⟨t', done ++ [k], v', hlt', rfl, rfl, rfl, HE⟩
theorem Tryd.infoStr : (Tryd.prog.info? 9).map (fun i => (i.zero, i.size, i.bytes)) = some (some (.string ByteArray.empty), 1, 16) := by kernel_rfl
def strV (l : List ByteArray) : List Value := l.map Value.string
theorem strV_one (l : List ByteArray) : ∀ u ∈ strV l, u.oneCell' = true := by
  intro u hu
  obtain ⟨k, _, rfl⟩ := List.mem_map.1 hu
  rfl
/-- A slice of strings. -/
def StrsAt (w : World) (v : Value) (l : List ByteArray) : Prop := RowOf w 9 1 v l.length (strV l)
def SRel (w : World) (l : List ByteArray) (v : Value) (wr : World) : Prop := StrsAt wr v l ∧ Mod (fun _ => False) w wr ∧ ∀ q, v.ownBlock = some q → w.heap.size ≤ q
theorem SRel.put {w wr w' : World} {l : List ByteArray} {v v' : Value} {x : ByteArray} (h : SRel w l v wr) (hr : RowOf w' 9 1 v' (l.length + 1) (strV l ++ [.string x])) (hg : (wr.alloc (.cells #[.string x] 9)).grownBy w' v.ownBlock)
    (ho : v'.ownBlock = v.ownBlock ∨ v'.ownBlock = some (wr.heap.size + 1)) : SRel w (l ++ [x]) v' w' := by
  refine ⟨?_, (h.2.1.alloc _).grown hg (fun k hk => h.2.2 k hk), fun q hq => ?_⟩
  · have e1 : (l ++ [x]).length = l.length + 1 := by simp
    have e2 : strV (l ++ [x]) = strV l ++ [.string x] := by simp [strV]
    unfold StrsAt
    rw [e1, e2]
    exact hr
  · have := h.2.1.size
    rcases ho with ho | ho
    · exact h.2.2 q (ho ▸ hq)
    · rw [ho] at hq
      have := Option.some.inj hq
      omega
theorem Nats.cell {w : World} {A : Option Addr} {c n : Nat} {l : List Nat} (h : Nats w (.slice A n c) l) {k : Nat} (hk : k < l.length) : ∃ b o, A = some ⟨b, o, none⟩ ∧ n = l.length ∧ w.cell? ⟨b, o + k, none⟩ = some (.int .i64 ((l.getD k 0 : Nat) : Int)) := by
  unfold Nats at h
  obtain ⟨b, o, cap, cur, he, hcur, _, hcells⟩ := RowOf.at h (by omega)
  cases he
  refine ⟨b, o, rfl, rfl, ?_⟩
  rw [blk_cell hcur, hcells k (by omega)]
  unfold natV
  rw [List.getElem?_map, List.getD_eq_getElem?_getD, List.getElem?_eq_getElem hk]
  rfl
def itoaB (k : Nat) : ByteArray := ⟨(Lib.decDigits k).toArray⟩
def joinL (l : List Nat) : List UInt8 := Lib.join (l.map Lib.decDigits) [44]
def showL (s : Nat) : List UInt8 := 123 :: (joinL (bitsOf s) ++ [125])
def showS (s : Nat) : ByteArray := ⟨(showL s).toArray⟩
theorem dec_len {k : Nat} (h : k < 100) : (Lib.decDigits k).length ≤ 2 := by
  by_cases h1 : k < 10
  · rw [Lib.decDigits_one h1]; show 1 ≤ 2; decide
  · rw [Lib.decDigits_two h1 h]; show 2 ≤ 2; decide
theorem joinTail_len : ∀ (l : List Nat), (∀ k ∈ l, k < 100) → (Lib.joinTail [44] (l.map Lib.decDigits)).length ≤ 3 * l.length
  | [], _ => Nat.zero_le _
  | k :: r, h => by
    have ih := joinTail_len r (fun x hx => h x (List.mem_cons_of_mem _ hx))
    have hk := dec_len (h k (List.mem_cons_self ..))
    unfold Lib.joinTail at ih ⊢
    rw [List.map_cons, List.map_cons, List.flatten_cons, List.length_append, List.length_append, List.length_cons]
    simp only [List.length_cons, List.length_nil]
    omega
theorem joinL_len (l : List Nat) (h : ∀ k ∈ l, k < 100) : (joinL l).length ≤ 3 * l.length := by
  unfold joinL
  cases l with
  | nil => exact Nat.zero_le _
  | cons k r =>
    have hk := dec_len (h k (List.mem_cons_self ..))
    have hr := joinTail_len r (fun x hx => h x (List.mem_cons_of_mem _ hx))
    rw [List.map_cons, Lib.join_cons, List.length_append, List.length_cons]
    omega
theorem bits_small (s : Nat) : ∀ k ∈ bitsOf s, k < 100 := fun k hk => by
  have := ((bitsOf_mem s k).1 hk).1
  omega
theorem str_app (a b : List UInt8) : (⟨a.toArray⟩ : ByteArray) ++ ⟨b.toArray⟩ = ⟨(a ++ b).toArray⟩ := by
  rw [ByteArray.ext_iff]
  rw [ByteArray.data_append]
  simp
theorem take_snocN {L : List Nat} {k : Nat} (h : k < L.length) : L.take (k + 1) = L.take k ++ [L.getD k 0] := by
  rw [List.take_succ_eq_append_getElem h, List.getD_eq_getElem?_getD, List.getElem?_eq_getElem h]; rfl
def Shown (w : World) (s : Nat) (e : Ending) (w' : World) : Prop := e = .returned (.string (showS s)) ∧ Mod (fun _ => False) w w'
set_option maxHeartbeats 2000000 in
theorem show_any (s : Nat) (w : World) (hs : s < 18446744073709551616) (hT : Tab w) : Calls Tryd.prog 36 #[.int .u64 s] w (Shown w s) := by
  obtain ⟨i0, hii, hz0, hz1, hz2⟩ := info_parts Tryd.infoStr
  have HL := Lib.hid (list_any s w hs hT)
  have hbs := bits_small s
  have hbl := bitsOf_len s
  have HJ : Hid (Shown w s = fun e w' => e = .returned (.string (⟨#[123]⟩ ++ ⟨(joinL (bitsOf s)).toArray⟩ ++ ⟨#[125]⟩)) ∧ Mod (fun _ => False) w w') := by
    show Shown w s = _
    unfold Shown showS showL
    have e : ((⟨#[123]⟩ : ByteArray) ++ ⟨(joinL (bitsOf s)).toArray⟩) ++ ⟨#[125]⟩ = ⟨(123 :: (joinL (bitsOf s) ++ [125])).toArray⟩ := by
      have h1 := str_app [123] (joinL (bitsOf s))
      have h2 := str_app ([123] ++ joinL (bitsOf s)) [125]
      exact (congrArg (· ++ (⟨#[125]⟩ : ByteArray)) h1).trans (h2.trans (by simp))
    rw [e]
  rw [HJ.out]
  have hjl := joinL_len (bitsOf s) hbs
  generalize bitsOf s = l at *
  have HBS := Lib.hid hbs
  clear hT hbs
  go_enter Tryd.func36, Tryd.ntmps36
  go_wp2_with fail
  refine HL.out.mono ?_
  rintro e w1 ⟨v1, rfl, hv, hm⟩
  have HV := Lib.hid hv
  have HM := Lib.hid hm
  obtain ⟨A, c, rfl⟩ := RowOf.form hv
  have HR0 : Hid (SRel w1 [] (.slice none 0 0) w1) := ⟨RowOf.nil _ _ _, Mod.refl _ _, fun q hq => by cases hq⟩
  clear hv hm HL
  go_wp2
  go_loopw [3, 9] (fun acc i wr => ∃ (k : Nat) (v : Value), k ≤ l.length ∧ i = .int .i64 k ∧ v = acc ∧ Hid (SRel w1 ((l.take k).map itoaB) v wr)) (fun _ i _ => l.length - (intOf i).toNat)
  case atStart => exact ⟨0, _, Nat.zero_le _, rfl, rfl, HR0⟩
  case round =>
    obtain ⟨k, v, hk, rfl, rfl, hD⟩ := hrel
    have hkl : ((l.take k).map itoaB).length = k := by rw [List.length_map, List.length_take]; omega
    by_cases hlt : k < l.length
    · have hV : Nats wr (.slice A l.length c) l := RowOf.mod HV.out hD.out.2.1 (fun _ _ x => x)
      obtain ⟨b, o, rfl, _, hc⟩ := Nats.cell hV hlt
      have hi : (k : Int) < l.length := by omega
      have hi0 : (0 : Int) ≤ (k : Int) := by omega
      have tk : decide (k < l.length) = true := decide_eq_true hlt
      have HTS : Hid ((l.take (k + 1)).map itoaB = (l.take k).map itoaB ++ [itoaB (l.getD k 0)]) := by show _ = _; rw [take_snocN hlt, List.map_append]; rfl
      have hx : l.getD k 0 < 100 := by
        rw [List.getD_eq_getElem?_getD, List.getElem?_eq_getElem hlt]
        exact HBS.out _ (List.getElem_mem hlt)
      generalize l.getD k 0 = x at *
      have HIT := Lib.hid (Tryd.strconv_Itoa_small x hx wr)
      have HKL := Lib.hid hkl
      generalize (l.take k).map itoaB = done at *
      have HRW : Hid (RowOf (wr.alloc (.cells #[.string (itoaB x)] 9)) 9 1 v done.length (strV done)) := RowOf.alloc hD.out.1 _
      have HX : Hid (SrcOk (wr.alloc (.cells #[.string (itoaB x)] 9)) (.slice (some ⟨wr.heap.size, 0, none⟩) 1 1) 1 1 [.string (itoaB x)]) := SrcOk.block (blk_new wr _) rfl (fun j u hu => by rw [Nat.zero_add]; simpa using hu) (by simp [Value.oneCell'])
      have hbz := RowOf.lt hV rfl
      clear hV hkl hx
      go_wp2_with fail
      refine HIT.out.mono ?_
      rintro e w2 ⟨rfl, rfl⟩
      rw [show (⟨(Lib.decDigits x).toArray⟩ : ByteArray) = itoaB x from rfl]
      go_wp2_with (at_builtin; refine wpList_append_row (by rfl) _ _ 55 (by rfl) i0 (.string ByteArray.empty) 16 Tryd.underlying55 hii hz0 hz1 hz2 (by rfl) (by omega) (by rfl) HRW.out (strV_one _) _ 1 [.string (itoaB x)] (by rfl) HX.out (by have := HKL.out; unfold maxLen; omega) (by have := HKL.out; omega) ?_)
      intro v' w' hv1 hv2 hv3
      have HE : Hid (SRel w1 ((l.take (k + 1)).map itoaB) v' w') := by
        show SRel _ _ _ _
        rw [HTS.out]
        exact hD.out.put hv1 hv2 (by simpa using hv3)
      clear hv1 hv2 hv3 HRW HX hD hc
      go_wp2
      go_roundw
      case rel => exact ⟨k + 1, v', by omega, by go_num, rfl, HE⟩
      case measure => simp [intOf]; omega
    · obtain rfl : k = l.length := by omega
      have ti : decide (l.length < l.length) = false := decide_eq_false (by omega)
      rw [List.take_length] at hD
      have hR := hD.out
      have HMX : Hid (Mod (fun _ => False) w wr) := HM.out.trans hR.2.1
      have hz1' : (⟨#[123]⟩ : ByteArray).size + (⟨(joinL l).toArray⟩ : ByteArray).size ≤ 9223372036854775807 := by show 1 + (joinL l).length ≤ _; omega
      have hz2' : ((⟨#[123]⟩ : ByteArray) ++ ⟨(joinL l).toArray⟩).size + (⟨#[125]⟩ : ByteArray).size ≤ 9223372036854775807 := by
        rw [ByteArray.size_append]
        show 1 + (joinL l).length + 1 ≤ _
        omega
      have HJN : Hid (Calls Tryd.prog 26 #[v, .string ⟨#[44]⟩] wr fun e w' => e = .returned (.string ⟨(joinL l).toArray⟩) ∧ Below wr.heap.size wr w') := by
        have hrow := hR.1
        unfold StrsAt at hrow
        rw [List.length_map] at hrow
        cases l with
        | nil =>
          obtain ⟨A9, c9, rfl⟩ := RowOf.form hrow
          exact (Tryd.strings_Join_none A9 c9 ⟨#[44]⟩ wr).mono fun _ _ ⟨h1, h2⟩ => ⟨h1, h2 ▸ Below.refl _ _⟩
        | cons x0 r0 =>
          obtain ⟨b9, o9, cap9, cur9, rfl, hcur, hcap, hcells⟩ := RowOf.at hrow (by simp)
          have := Tryd.strings_Join b9 o9 cap9 ((x0 :: r0).map itoaB) ⟨#[44]⟩ wr (fun j y hy => by
            rw [blk_cell hcur, hcells j (by have := (List.getElem?_eq_some_iff.1 hy).1; simpa using this)]
            unfold strV
            rw [List.getElem?_map, hy]
            rfl) (blk_lt hcur) (by rw [List.length_map]; omega) (by rw [List.length_map]; exact hcap) (by
            rw [List.map_map]
            exact Nat.le_trans hjl (by omega))
          rw [List.length_map, List.map_map] at this
          exact this
      clear hR hD hlt hkl hjl
      go_wp2_with fail
      refine HJN.out.mono ?_
      rintro e w3 ⟨rfl, hb⟩
      have HM3 : Hid (Mod (fun _ => False) w w3) := HMX.out.trans (Mod.of_below hb)
      clear hb
      go_wp2
      go_ret
      exact ⟨rfl, HM3.out⟩

/-- The digits of a small number. -/
def dd (k : Nat) : List UInt8 := if k < 10 then [UInt8.ofNat (48 + k)] else [UInt8.ofNat (48 + k / 10), UInt8.ofNat (48 + k % 10)]
theorem dd_is {k : Nat} (h : k < 100) : Lib.decDigits k = dd k := by
  unfold dd
  by_cases h1 : k < 10
  · rw [Lib.decDigits_one h1, if_pos h1]
  · rw [Lib.decDigits_two h1 h, if_neg h1]
theorem showL_dd (s : Nat) : showL s = 123 :: (Lib.join ((bitsOf s).map dd) [44] ++ [125]) := by
  unfold showL joinL
  rw [List.map_congr_left fun k hk => dd_is (bits_small s k hk)]
def bitsTo (s k : Nat) : List Nat := bitsFrom s 0 k
theorem bitsFrom_snoc (s : Nat) : ∀ (n i : Nat), bitsFrom s i (n + 1) = bitsFrom s i n ++ (if s.testBit (i + n) then [i + n] else [])
  | 0, i => by
    unfold bitsFrom bitsFrom
    rw [Nat.add_zero]
    split <;> rfl
  | n + 1, i => by
    rw [bitsFrom_succ, bitsFrom_snoc s n (i + 1), bitsFrom_succ, show i + 1 + n = i + (n + 1) by omega]
    split <;> simp
theorem bitsTo_next (s k : Nat) : bitsTo s (k + 1) = bitsTo s k ++ (if s.testBit k then [k] else []) := by
  unfold bitsTo
  rw [bitsFrom_snoc, Nat.zero_add]
theorem bitsTo_len (s k : Nat) : (bitsTo s k).length ≤ k := bitsFrom_len s k 0
set_option maxHeartbeats 2000000 in
theorem rlist_any (s : Nat) (w : World) (hs : s < 18446744073709551616) : Calls Tryd.prog 44 #[.int .u64 s] w (NGave w (bitsOf s)) := by
  obtain ⟨i0, hii, hz0, hz1, hz2⟩ := info_parts Tryd.infoInt
  have HR0 : Hid (NRel w [] (.slice none 0 0) w) := ⟨RowOf.nil _ _ _, Mod.refl _ _, fun q hq => by cases hq⟩
  have HIN : Hid (∀ (k : Nat) W, Calls Tryd.prog 58 #[.int .u64 s, .int .i64 k] W fun e w' => e = .returned (.bool (inSet s k)) ∧ W = w') := fun k W => rin_any s k W hs
  have HB : Hid (∀ k : Nat, inSet s k = s.testBit k) := fun k => inSet_nat s k hs
  clear hs
  go_enter Tryd.func44, Tryd.ntmps44
  go_wp2
  go_loopw [3, 4] (fun acc i wr => ∃ (k : Nat) (v : Value), k ≤ 64 ∧ i = .int .i64 k ∧ v = acc ∧ Hid (NRel w (bitsTo s k) v wr)) (fun _ i _ => 64 - (intOf i).toNat)
  case atStart => exact ⟨0, _, Nat.zero_le _, rfl, rfl, HR0⟩
  case round =>
    obtain ⟨k, v, hk, rfl, rfl, hR⟩ := hrel
    by_cases hlt : k < 64
    · have hi : (k : Int) < 64 := by omega
      have HI := Lib.hid (HIN.out k wr)
      have HNX := Lib.hid (bitsTo_next s k)
      have HDL := Lib.hid (bitsTo_len s k)
      rw [HB.out] at HI
      generalize bitsTo s k = done at *
      cases hb : s.testBit k with
      | true =>
        have HRW : Hid (RowOf (wr.alloc (.cells #[.int .i64 (k : Int)] 3)) 3 1 v done.length (natV done)) := RowOf.alloc hR.out.1 _
        have HX : Hid (SrcOk (wr.alloc (.cells #[.int .i64 (k : Int)] 3)) (.slice (some ⟨wr.heap.size, 0, none⟩) 1 1) 1 1 [.int .i64 (k : Int)]) := SrcOk.block (blk_new wr _) rfl (fun j u hu => by rw [Nat.zero_add]; simpa using hu) (by simp [Value.oneCell'])
        rw [hb] at HI HNX
        go_wp2_with fail
        refine HI.out.mono ?_
        rintro e w1 ⟨rfl, rfl⟩
        go_wp2_with (at_builtin; refine wpList_append_row (by rfl) _ _ 79 (by rfl) i0 (.int .i64 0) 8 Tryd.underlying79 hii hz0 hz1 hz2 (by rfl) (by omega) (by rfl) HRW.out (natV_one _) _ 1 [.int .i64 (k : Int)] (by rfl) HX.out (by have := HDL.out; unfold maxLen; omega) (by have := HDL.out; omega) ?_)
        intro v' w' hv1 hv2 hv3
        have HE : Hid (NRel w (bitsTo s (k + 1)) v' w') := by
          show NRel _ _ _ _
          rw [HNX.out]
          exact hR.out.put hv1 hv2 (by simpa using hv3)
        clear hv1 hv2 hv3 HRW HX hR
        go_wp2
        go_roundw
        case rel => exact ⟨k + 1, v', by omega, by go_num, rfl, HE⟩
        case measure => simp [intOf]; omega
      | false =>
        rw [hb] at HI HNX
        have HE : Hid (NRel w (bitsTo s (k + 1)) v wr) := by
          show NRel _ _ _ _
          rw [HNX.out, if_neg (by decide), List.append_nil]
          exact hR.out
        clear hR
        go_wp2_with fail
        refine HI.out.mono ?_
        rintro e w1 ⟨rfl, rfl⟩
        go_wp2
        go_roundw
        case rel => exact ⟨k + 1, v, by omega, by go_num, rfl, HE⟩
        case measure => simp [intOf]; omega
    · obtain rfl : k = 64 := by omega
      have HE : Hid (NGave w (bitsOf s) (.returned v) wr) := ⟨v, rfl, hR.out.1, hR.out.2.1⟩
      clear hR
      go_wp2
      go_ret
      exact HE.out

/-- One letter's row as a string. -/
theorem conv_one {W : World} {b d : Nat} (hd : d < 10) (h : W.heap[b]? = some (.cells #[.int .u8 (48 + (d : Int))] 5 (0, 0))) :
    (convert 68 9 (.slice (some ⟨b, 0, none⟩) 1 1)).run Tryd.prog W = .ok (.string ⟨#[UInt8.ofNat (48 + d)]⟩) W :=
  run_convert_bytes_back (P := Tryd.prog) W 68 9 5 ⟨b, 0, none⟩ 1 [UInt8.ofNat (48 + d)] Tryd.underlying68 Tryd.underlying5 Tryd.underlying9 (fun j hj => by
    obtain rfl : j = 0 := by have : j < 1 := hj; omega
    show W.cell? ⟨b, 0 + 0, none⟩ = _
    rw [blk_cell h]
    have e : (UInt8.ofNat (48 + d)).toNat = 48 + d := by rw [UInt8.toNat_ofNat']; omega
    show some (Value.int .u8 (48 + (d : Int))) = some (.int .u8 ((UInt8.ofNat (48 + d)).toNat : Int))
    rw [e]
    congr 2)
theorem dec_step (n : Nat) (h : ¬ n < 10) : itoaB n = itoaB (n / 10) ++ ⟨#[UInt8.ofNat (48 + n % 10)]⟩ := by
  have e : Lib.decDigits n = Lib.decDigits (n / 10) ++ [UInt8.ofNat (48 + n % 10)] := by
    rw [Lib.decDigits, dif_neg h]
  unfold itoaB
  rw [e]
  exact (str_app _ _).symm
theorem dec_one (n : Nat) (h : n < 10) : itoaB n = ⟨#[UInt8.ofNat (48 + n)]⟩ := by
  unfold itoaB
  rw [Lib.decDigits_one h]
theorem dec_size : ∀ (k n : Nat), n < 10 ^ (k + 1) → (itoaB n).size ≤ k + 1
  | 0, n, h => by rw [dec_one n (by omega)]; exact Nat.le_refl _
  | k + 1, n, h => by
    by_cases h1 : n < 10
    · rw [dec_one n h1]; show 1 ≤ _; omega
    · have := dec_size k (n / 10) (by rw [Nat.pow_succ] at h; omega)
      rw [dec_step n h1, ByteArray.size_append]
      show _ + 1 ≤ _
      omega
set_option maxRecDepth 100000 in
set_option maxHeartbeats 4000000 in
theorem rdigits_any (n : Nat) : ∀ (w : World), n < 18446744073709551616 → Calls Tryd.prog 29 #[.int .u64 n] w fun e w' => e = .returned (.string (itoaB n)) ∧ Mod (fun _ => False) w w' := by
  induction n using Nat.strongRecOn with
  | ind n ih =>
    intro w hn
    by_cases h : n < 10
    · have hi : (n : Int) < 10 := by omega
      have hw : IntKind.u8.wrap (48 + (n : Int)) = 48 + (n : Int) := by rw [IntKind.wrap_u8]; omega
      have hc := conv_one h (blk_new w (.cells #[.int .u8 (48 + (n : Int))] 5))
      have HE := Lib.hid (dec_one n h)
      clear ih h
      generalize UInt8.ofNat (48 + n) = c at *
      go_enter Tryd.func29, Tryd.ntmps29
      go_wp2
      go_ret
      exact ⟨by rw [HE.out]; rfl, (Mod.refl _ _).alloc _⟩
    · have hi : ¬ (n : Int) < 10 := by omega
      have IH := Lib.hid (fun W => ih (n / 10) (by omega) W (by omega))
      have hz : (itoaB (n / 10)).size ≤ 20 := dec_size 19 (n / 10) (by omega)
      have hd : n % 10 < 10 := Nat.mod_lt _ (by decide)
      have hw : IntKind.u8.wrap (48 + ((n % 10 : Nat) : Int)) = 48 + ((n % 10 : Nat) : Int) := by rw [IntKind.wrap_u8]; omega
      have HE := Lib.hid (dec_step n h)
      have e1 : (n : Int) / 10 = ((n / 10 : Nat) : Int) := by omega
      have e2 : (n : Int) % 10 = ((n % 10 : Nat) : Int) := by omega
      have e3 : (n : Int).tmod 10 = ((n % 10 : Nat) : Int) := by rw [Int.tmod_eq_emod_of_nonneg (by omega)]; omega
      have hwq : IntKind.u64.wrap ((n / 10 : Nat) : Int) = ((n / 10 : Nat) : Int) := by rw [IntKind.wrap_u64]; omega
      have hw2 : IntKind.u64.wrap (48 + ((n % 10 : Nat) : Int)) = 48 + ((n % 10 : Nat) : Int) := by rw [IntKind.wrap_u64]; omega
      have HC : Hid (∀ (W : World) (b : Nat), W.heap[b]? = some (.cells #[.int .u8 (48 + ((n % 10 : Nat) : Int))] 5 (0, 0)) → (convert 68 9 (.slice (some ⟨b, 0, none⟩) 1 1)).run Tryd.prog W = .ok (.string ⟨#[UInt8.ofNat (48 + n % 10)]⟩) W) := fun W b hb => conv_one hd hb
      clear ih h hd
      generalize itoaB (n / 10) = q at *
      generalize UInt8.ofNat (48 + n % 10) = c at *
      generalize n / 10 = n1 at *
      generalize n % 10 = d at *
      have hcA := HC.out ((w.alloc (.cells #[.int .u8 (48 + (d : Int))] 5)).drew) w.heap.size (blk_new w _)
      have hz2 : q.size + (⟨#[c]⟩ : ByteArray).size ≤ 9223372036854775807 := by show q.size + 1 ≤ _; omega
      have hs0 : w.heap.size ≤ ((w.alloc (.cells #[.int .u8 (48 + (d : Int))] 5)).drew).heap.size := ((Mod.refl (fun _ => False) w).alloc _).drew.size
      go_enter Tryd.func29, Tryd.ntmps29
      go_wp2_with fail
      go_region_with (first | (go_at_call 29; (with_reducible refine (IH.out (w.drew)).mono ?_); rintro e w1 ⟨rfl, hm⟩; have hcB := HC.out (w1.alloc (.cells #[.int .u8 (48 + (d : Int))] 5)) w1.heap.size (blk_new w1 _); have hs1 : w.heap.size ≤ w1.heap.size := hm.size; have hs2 : w.heap.size ≤ (w1.alloc (.cells #[.int .u8 (48 + (d : Int))] 5)).heap.size := (hm.alloc (.cells #[.int .u8 (48 + (d : Int))] 5)).size; have HMF : Hid (Mod (fun _ => False) w (w1.alloc (.cells #[.int .u8 (48 + (d : Int))] 5))) := ((Mod.refl (fun _ => False) w).drew.trans hm).alloc _; clear hm) | (go_at_call 29; (with_reducible refine (IH.out ((w.alloc (.cells #[.int .u8 (48 + (d : Int))] 5)).drew)).mono ?_); rintro e w1 ⟨rfl, hm⟩; have hcC := HC.out w1 w.heap.size (hm.blk (blk_new w _) (fun h => h)); have hs1 : w.heap.size ≤ w1.heap.size := Nat.le_trans hs0 hm.size; have HMF : Hid (Mod (fun _ => False) w w1) := ((Mod.refl (fun _ => False) w).alloc _).drew.trans hm; clear hm))
      all_goals go_wp2
      all_goals go_ret
      all_goals exact ⟨by rw [HE.out]; rfl, HMF.out⟩
/-- What is written behind k of them. -/
def preL (l : List Nat) (k : Nat) : List UInt8 := 123 :: joinL (l.take k)
def preS (l : List Nat) (k : Nat) : ByteArray := ⟨(preL l k).toArray⟩
theorem join_snoc (x : List UInt8) (r : List (List UInt8)) (y : List UInt8) : Lib.join (x :: r ++ [y]) [44] = Lib.join (x :: r) [44] ++ 44 :: y := by
  rw [List.cons_append, Lib.join_cons, Lib.join_cons]
  unfold Lib.joinTail
  simp
theorem pre_zero (l : List Nat) : preS l 0 = ⟨#[123]⟩ := rfl
theorem pre_one (l : List Nat) (h : 0 < l.length) : preS l 1 = preS l 0 ++ itoaB (l.getD 0 0) := by
  cases l with
  | nil => simp at h
  | cons x r =>
    unfold preS itoaB
    rw [str_app]
    unfold preL joinL
    show (⟨(123 :: Lib.join [Lib.decDigits x] [44]).toArray⟩ : ByteArray) = _
    rw [Lib.join_one]
    rfl
theorem pre_next (l : List Nat) (k : Nat) (h : k < l.length) (h0 : 0 < k) : preS l (k + 1) = (preS l k ++ ⟨#[44]⟩) ++ itoaB (l.getD k 0) := by
  have e : preL l (k + 1) = preL l k ++ (44 :: Lib.decDigits (l.getD k 0)) := by
    unfold preL joinL
    rw [take_snocN h, List.map_append]
    cases hl : l.take k with
    | nil =>
      have := congrArg List.length hl
      rw [List.length_take, List.length_nil] at this
      omega
    | cons x r =>
      show 123 :: Lib.join (Lib.decDigits x :: r.map Lib.decDigits ++ [Lib.decDigits (l.getD k 0)]) [44] = _
      rw [join_snoc]
      rfl
  unfold preS itoaB
  rw [e]
  have h1 := str_app (preL l k) [44]
  have h2 := str_app (preL l k ++ [44]) (Lib.decDigits (l.getD k 0))
  refine Eq.trans ?_ (h2.symm.trans (congrArg (· ++ (⟨(Lib.decDigits (l.getD k 0)).toArray⟩ : ByteArray)) h1.symm))
  simp
theorem pre_all (l : List Nat) : preS l l.length ++ ⟨#[125]⟩ = ⟨(123 :: (joinL l ++ [125])).toArray⟩ := by
  have h := str_app (preL l l.length) [125]
  unfold preS
  refine h.trans ?_
  unfold preL
  rw [List.take_length]
  rfl
theorem pre_size (l : List Nat) (k : Nat) (h : ∀ x ∈ l, x < 100) (hl : l.length ≤ 64) : (preS l k).size ≤ 300 := by
  have := joinL_len (l.take k) (fun x hx => h x (List.mem_of_mem_take hx))
  rw [List.length_take] at this
  show (joinL (l.take k)).length + 1 ≤ 300
  omega
set_option maxRecDepth 100000 in
set_option maxHeartbeats 4000000 in
theorem rshow_any (s : Nat) (w : World) (hs : s < 18446744073709551616) : Calls Tryd.prog 30 #[.int .u64 s] w (Shown w s) := by
  have HL := Lib.hid (rlist_any s w hs)
  have hbs := bits_small s
  have hl64 := bitsOf_len s
  have HF : Hid (Shown w s = fun e w' => e = .returned (.string (preS (bitsOf s) (bitsOf s).length ++ ⟨#[125]⟩)) ∧ Mod (fun _ => False) w w') := by
    show Shown w s = _
    unfold Shown showS showL
    rw [pre_all]
  have HSZ : Hid (∀ k, (preS (bitsOf s) k).size ≤ 300) := fun k => pre_size _ k hbs hl64
  rw [HF.out]
  generalize bitsOf s = l at *
  have HBS := Lib.hid hbs
  clear hbs hs
  go_enter Tryd.func30, Tryd.ntmps30
  go_wp2_with fail
  refine HL.out.mono ?_
  rintro e w1 ⟨v1, rfl, hv, hm⟩
  have HV := Lib.hid hv
  have HM := Lib.hid hm
  obtain ⟨A, c, rfl⟩ := RowOf.form hv
  clear hv hm HL
  go_wp2
  go_loopw [3, 5] (fun t i wr => ∃ (k : Nat) (T : ByteArray), k ≤ l.length ∧ i = .int .i64 k ∧ t = .string T ∧ Hid (T = preS l k) ∧ Hid (Mod (fun _ => False) w1 wr)) (fun _ i _ => l.length - (intOf i).toNat)
  case atStart => exact ⟨0, _, Nat.zero_le _, rfl, rfl, rfl, Mod.refl _ _⟩
  case round =>
    obtain ⟨k, T, hk, rfl, rfl, HT, HW⟩ := hrel
    have hsz : T.size ≤ 300 := by rw [HT.out]; exact HSZ.out k
    by_cases hlt : k < l.length
    · have hV : Nats wr (.slice A l.length c) l := RowOf.mod HV.out HW.out (fun _ _ x => x)
      obtain ⟨b, o, rfl, _, hc⟩ := Nats.cell hV hlt
      have hi : (k : Int) < l.length := by omega
      have hi0 : (0 : Int) ≤ (k : Int) := by omega
      have tk : decide (k < l.length) = true := decide_eq_true hlt
      have hx : l.getD k 0 < 100 := by
        rw [List.getD_eq_getElem?_getD, List.getElem?_eq_getElem hlt]
        exact HBS.out _ (List.getElem_mem hlt)
      have HN1 : Hid (k = 0 → preS l (k + 1) = T ++ itoaB (l.getD k 0)) := fun h0 => by subst h0; rw [HT.out]; exact pre_one l (by omega)
      have HN2 : Hid (0 < k → preS l (k + 1) = (T ++ ⟨#[44]⟩) ++ itoaB (l.getD k 0)) := fun h0 => by rw [HT.out]; exact pre_next l k hlt h0
      generalize l.getD k 0 = x at *
      have hwx : IntKind.u64.wrap (x : Int) = (x : Int) := by rw [IntKind.wrap_u64]; omega
      have HD : Hid (∀ W, Calls Tryd.prog 29 #[.int .u64 x] W fun e w' => e = .returned (.string (itoaB x)) ∧ Mod (fun _ => False) W w') := fun W => rdigits_any x W (by omega)
      have hq : (itoaB x).size ≤ 20 := dec_size 19 x (by omega)
      generalize itoaB x = q at *
      by_cases h0 : k = 0
      · subst h0
        have HE := HN1.out rfl
        rw [Nat.add_zero] at hc
        have hz2 : T.size + q.size ≤ 9223372036854775807 := by omega
        clear HN1 HN2 hV hk
        have HE := Lib.hid HE
        go_wp2_with fail
        refine (HD.out _).mono ?_
        rintro e w2 ⟨rfl, hm⟩
        have HW2 : Hid (Mod (fun _ => False) w1 w2) := HW.out.trans hm
        clear hm
        go_wp2
        go_roundw
        case rel => exact ⟨0 + 1, _, by omega, by go_num, rfl, HE.out.symm, HW2⟩
        case measure => simp [intOf]; omega
      · have HE := HN2.out (by omega)
        have h1 : (0 : Int) < (k : Int) := by omega
        have tk0 : decide (0 < k) = true := decide_eq_true (by omega)
        have hz1 : T.size + (⟨#[44]⟩ : ByteArray).size ≤ 9223372036854775807 := by show T.size + 1 ≤ _; omega
        have hz2 : (T ++ ⟨#[44]⟩).size + q.size ≤ 9223372036854775807 := by
          rw [ByteArray.size_append]
          show T.size + 1 + q.size ≤ _
          omega
        clear HN1 HN2 hV hk
        have HE := Lib.hid HE
        go_wp2_with fail
        refine (HD.out _).mono ?_
        rintro e w2 ⟨rfl, hm⟩
        have HW2 : Hid (Mod (fun _ => False) w1 w2) := HW.out.trans hm
        clear hm
        go_wp2
        go_roundw
        case rel => exact ⟨k + 1, _, by omega, by go_num, rfl, HE.out.symm, HW2⟩
        case measure => simp [intOf]; omega
    · obtain rfl : k = l.length := by omega
      have ti : decide (l.length < l.length) = false := decide_eq_false (by omega)
      have hz1 : T.size + (⟨#[125]⟩ : ByteArray).size ≤ 9223372036854775807 := by show T.size + 1 ≤ _; omega
      have HMF : Hid (Mod (fun _ => False) w wr) := HM.out.trans HW.out
      go_wp2
      go_ret
      exact ⟨by rw [← HT.out]; rfl, HMF.out⟩

end Go.Proofs.YtlklbdnlpljaiaaDoor.Dst
