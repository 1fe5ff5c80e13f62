/-
  Parse at every text; a set's text is read back.
-/
import Derived.Test.YtkmfbddiebigfaaDoorDsE
namespace Go.Proofs.YtkmfbddiebigfaaDoor
open Go.RowKit Go.Shoal

set_option maxHeartbeats 1000000 in
theorem parse_bad (s : List UInt8) (hs : s.length ≤ 100000) (w : World) (hf : formed s = false) :
    Calls Tryd.prog 9 #[.string ⟨s.toArray⟩] w fun e w' => e = .returned (pairU (0, false)) ∧ Mod (fun _ => False) w w' := by
  unfold formed at hf
  have hz1 : (Lib.trimPrefix s [123]).length ≤ s.length := by
    unfold Lib.trimPrefix; split <;> simp
  have H1 := Lib.hid (Tryd.strings_CutPrefix ⟨s.toArray⟩ ⟨#[123]⟩ w)
  have H2 := Lib.hid (Tryd.strings_CutSuffix ⟨(Lib.trimPrefix s [123]).toArray⟩ ⟨#[125]⟩ w (by show (Lib.trimPrefix s [123]).length ≤ _; omega))
  have H1' : Hid (Calls Tryd.prog 25 #[.string ⟨s.toArray⟩, .string ⟨#[123]⟩] w fun e w' => e = .returned (.tuple #[.string ⟨(Lib.trimPrefix s [123]).toArray⟩, .bool (Lib.hasPrefix s [123])]) ∧ w' = w) := H1.out
  have H2' : Hid (Calls Tryd.prog 26 #[.string ⟨(Lib.trimPrefix s [123]).toArray⟩, .string ⟨#[125]⟩] w fun e w' => e = .returned (.tuple #[.string ⟨(Lib.trimSuffix (Lib.trimPrefix s [123]) [125]).toArray⟩, .bool (Lib.hasSuffix (Lib.trimPrefix s [123]) [125])]) ∧ w' = w) := H2.out
  clear H1 H2 hz1
  generalize Lib.trimSuffix (Lib.trimPrefix s [123]) [125] = body at *
  generalize Lib.hasSuffix (Lib.trimPrefix s [123]) [125] = b2 at *
  generalize Lib.trimPrefix s [123] = pre at *
  generalize Lib.hasPrefix s [123] = b1 at *
  cases b1 with
  | false =>
    clear hf
    go_enter Tryd.func9, Tryd.ntmps9
    go_wp2_with fail
    refine H1'.out.mono ?_
    rintro e w1 ⟨rfl, rfl⟩
    go_wp2_with fail
    refine H2'.out.mono ?_
    rintro e w2 ⟨rfl, rfl⟩
    go_wp2
    go_ret2
    exact ⟨rfl, Mod.refl _ _⟩
  | true =>
    obtain rfl : b2 = false := by simpa using hf
    clear hf
    go_enter Tryd.func9, Tryd.ntmps9
    go_wp2_with fail
    refine H1'.out.mono ?_
    rintro e w1 ⟨rfl, rfl⟩
    go_wp2_with fail
    refine H2'.out.mono ?_
    rintro e w2 ⟨rfl, rfl⟩
    go_wp2
    go_ret2
    exact ⟨rfl, Mod.refl _ _⟩

theorem parse_any (s : List UInt8) (hs : s.length ≤ 100000) (w : World) (hT : Tab w) (hE : Errs w) :
    Calls Tryd.prog 9 #[.string ⟨s.toArray⟩] w fun e w' => e = .returned (pairU (parseX s)) ∧ Mod (fun _ => False) w w' := by
  unfold parseX
  cases hf : formed s with
  | false => rw [if_neg (by decide)]; exact parse_bad s hs w hf
  | true => rw [if_pos rfl]; exact parse_parts s hs w hT hE hf

theorem index_hit : ∀ (x r : List UInt8), (44 : UInt8) ∉ x → Lib.index (x ++ 44 :: r) [44] = (x.length : Int)
  | [], r, _ => by rw [List.nil_append, Lib.index]; simp [List.isPrefixOf]
  | b :: l, r, h => by
    have hb : (44 : UInt8) ≠ b := fun e => h (e ▸ List.mem_cons_self ..)
    have ih := index_hit l r (fun hh => h (List.mem_cons_of_mem _ hh))
    have hp : ([44] : List UInt8).isPrefixOf (b :: (l ++ 44 :: r)) = false := by simp [List.isPrefixOf, hb]
    rw [List.cons_append, Lib.index, hp, ih]
    have : ((l.length : Int) == -1) = false := by rw [beq_eq_false_iff_ne]; omega
    simp [this]
theorem index_miss : ∀ (x : List UInt8), (44 : UInt8) ∉ x → Lib.index x [44] = -1
  | [], _ => rfl
  | b :: l, h => by
    have hb : (44 : UInt8) ≠ b := fun e => h (e ▸ List.mem_cons_self ..)
    have ih := index_miss l (fun hh => h (List.mem_cons_of_mem _ hh))
    have hp : ([44] : List UInt8).isPrefixOf (b :: l) = false := by simp [List.isPrefixOf, hb]
    rw [Lib.index, hp, ih]
    rfl
theorem split_hit (x r : List UInt8) (h : (44 : UInt8) ∉ x) : Lib.split (x ++ 44 :: r) [44] = x :: Lib.split r [44] := by
  have hi := index_hit x r h
  unfold Lib.split
  have hd : (x ++ 44 :: r).drop (x.length + ([44] : List UInt8).length) = r := by
    show (x ++ 44 :: r).drop (x.length + 1) = r
    rw [List.drop_append]
    simp
  rw [Lib.count_hit (by simp) hi, hd, Nat.add_comm 1]
  rw [Lib.splitK, hi]
  have : ((x.length : Int) == -1) = false := by rw [beq_eq_false_iff_ne]; omega
  rw [this, if_neg (by decide), Int.toNat_natCast, hd, Nat.add_zero, List.take_left]
theorem split_miss (x : List UInt8) (h : (44 : UInt8) ∉ x) : Lib.split x [44] = [x] := by
  unfold Lib.split
  rw [Lib.count_miss (index_miss x h)]
  rfl
theorem split_join : ∀ (x : List UInt8) (r : List (List UInt8)), (∀ y ∈ x :: r, (44 : UInt8) ∉ y) → Lib.split (Lib.join (x :: r) [44]) [44] = x :: r
  | x, [], h => by
    rw [Lib.join_one]
    exact split_miss x (h x (List.mem_cons_self ..))
  | x, y :: r, h => by
    have e : Lib.join (x :: y :: r) [44] = x ++ 44 :: Lib.join (y :: r) [44] := by
      rw [Lib.join_cons, Lib.join_cons]
      simp [Lib.joinTail]
    rw [e, split_hit x _ (h x (List.mem_cons_self ..)), split_join y r (fun z hz => h z (List.mem_cons_of_mem _ hz))]
/-- The digits of a small number. -/
def dd (k : Nat) : List UInt8 := if k < 10 then [UInt8.ofNat (48 + k)] else [UInt8.ofNat (48 + k / 10), UInt8.ofNat (48 + k % 10)]
theorem dd_is {k : Nat} (h : k < 100) : Lib.decDigits k = dd k := by
  unfold dd
  by_cases h1 : k < 10
  · rw [Lib.decDigits_one h1, if_pos h1]
  · rw [Lib.decDigits_two h1 h, if_neg h1]
theorem dd_all : (List.range 100).all (fun k => (atoiV (dd k) == some (k : Int)) && !(dd k).contains 44) = true := by kernel_rfl
theorem dd_atoi {k : Nat} (h : k < 100) : atoiV (Lib.decDigits k) = some (k : Int) ∧ (44 : UInt8) ∉ Lib.decDigits k := by
  have := List.all_eq_true.1 dd_all k (List.mem_range.2 h)
  obtain ⟨a, b⟩ := Bool.and_eq_true_iff.1 this
  rw [dd_is h]
  exact ⟨beq_iff_eq.1 a, by simpa using b⟩
theorem puts_dec (l : List Nat) (h : ∀ k ∈ l, k < 100) : putsA (l.map Lib.decDigits) = setOf (l.map (fun k : Nat => (k : Int))) := by
  have : ∀ (l : List Nat), (∀ k ∈ l, k < 100) → ∀ x, (l.map Lib.decDigits).foldl putA x = (l.map (fun k : Nat => (k : Int))).foldl (fun s p => s ||| oneOf p) x := by
    intro l
    induction l with
    | nil => exact fun _ _ => rfl
    | cons k r ih =>
      intro h x
      rw [List.map_cons, List.map_cons, List.foldl_cons, List.foldl_cons]
      have e : putA x (Lib.decDigits k) = x ||| oneOf (k : Int) := by
        unfold putA
        rw [(dd_atoi (h k (List.mem_cons_self ..))).1]
        show x ||| (0 ||| oneOf (k : Int)) = _
        rw [Nat.zero_or]
      rw [e]
      exact ih (fun z hz => h z (List.mem_cons_of_mem _ hz)) _
  exact this l h 0
theorem setOf_bits (s : Nat) (hs : s < 18446744073709551616) : setOf ((bitsOf s).map (fun k : Nat => (k : Int))) = s := by
  apply Nat.eq_of_testBit_eq
  intro i
  rw [testBit_setOf]
  by_cases hi : i < 64
  · rw [decide_eq_true hi, Bool.true_and]
    cases hb : s.testBit i with
    | true =>
      have := (bitsOf_mem s i).2 ⟨hi, hb⟩
      rw [List.contains_iff_mem]
      exact List.mem_map.2 ⟨i, this, rfl⟩
    | false =>
      rw [Bool.eq_false_iff]
      intro hc
      rw [List.contains_iff_mem] at hc
      obtain ⟨k, hk, e⟩ := List.mem_map.1 hc
      obtain rfl : k = i := by omega
      rw [((bitsOf_mem s k).1 hk).2] at hb
      cases hb
  · rw [decide_eq_false hi, Bool.false_and]
    exact (Nat.testBit_lt_two_pow (Nat.lt_of_lt_of_le hs (Nat.pow_le_pow_right (n := 2) (i := 64) (by decide) (by omega)))).symm
theorem trim_show (m : List UInt8) : formed (123 :: (m ++ [125])) = true ∧ bodyOf (123 :: (m ++ [125])) = m := by
  have h1 : Lib.hasPrefix (123 :: (m ++ [125])) [123] = true := by simp [Lib.hasPrefix, List.isPrefixOf]
  have h2 : Lib.trimPrefix (123 :: (m ++ [125])) [123] = m ++ [125] := by unfold Lib.trimPrefix; rw [if_pos h1]; rfl
  have h3 : Lib.hasSuffix (m ++ [125]) [125] = true := by simp [Lib.hasSuffix]
  constructor
  · unfold formed; rw [h2, h1, h3]; rfl
  · unfold bodyOf Lib.trimSuffix; rw [h2, if_pos h3]; simp
theorem parse_show (s : Nat) (hs : s < 18446744073709551616) : parseX (showL s) = (s, true) := by
  have hb := bits_small s
  obtain ⟨h1, h2⟩ := trim_show (joinL (bitsOf s))
  have hp : putsA (Lib.split (bodyOf (showL s)) [44]) = s := by
    unfold showL
    rw [h2]
    have hset := setOf_bits s hs
    unfold joinL
    cases hl : bitsOf s with
    | nil =>
      rw [hl] at hset
      rw [← hset]
      rfl
    | cons k r =>
      rw [hl] at hb hset
      rw [List.map_cons, split_join _ _ (fun y hy => by
        rw [← List.map_cons] at hy
        obtain ⟨j, hj, rfl⟩ := List.mem_map.1 hy
        exact (dd_atoi (hb j hj)).2), ← List.map_cons, puts_dec _ hb, hset]
  unfold parseX
  rw [hp, if_pos (show formed (showL s) = true from h1), if_pos rfl]
/-- Only a set's own text is read. -/
theorem parse_not (t : List UInt8) (h : (parseX t).2 = false) : (parseX t).1 = 0 := by
  unfold parseX at h ⊢
  split
  · split
    · rename_i a b; rw [if_pos a, if_pos b] at h; cases h
    · rfl
  · rfl
theorem parse_is (t : List UInt8) (h : (parseX t).2 = true) : showL (parseX t).1 = t ∧ (parseX t).1 < 18446744073709551616 := by
  unfold parseX at h ⊢
  split
  · split
    · rename_i a b; exact ⟨b, putsA_lt _⟩
    · rename_i a b; rw [if_pos a, if_neg b] at h; cases h
  · rename_i a; rw [if_neg a] at h; cases h
end Go.Proofs.YtkmfbddiebigfaaDoor
