/-
  FilmTexts: plain: what is told unlike.
-/
import Derived.Test.YtlklbdnlpljaiaaDoorFmN
namespace Go.Proofs.YtlklbdnlpljaiaaDoor
open Go.RowKit Go.Shoal

/-- Of two texts 'p SPACE rest' with no space in p: alike only where both parts are. -/
theorem cut_space : ∀ (a b r s : List UInt8), (32 : UInt8) ∉ a → (32 : UInt8) ∉ b → a ++ 32 :: r = b ++ 32 :: s → a = b ∧ r = s
  | [], [], r, s, _, _, h => ⟨rfl, by simpa using h⟩
  | [], y :: b, r, s, _, hb, h => by
    have h1 : (32 : UInt8) = y := (List.cons.inj h).1
    exact (hb (h1 ▸ List.mem_cons_self ..)).elim
  | x :: a, [], r, s, ha, _, h => by
    have h1 : x = (32 : UInt8) := (List.cons.inj h).1
    exact (ha (h1 ▸ List.mem_cons_self ..)).elim
  | x :: a, y :: b, r, s, ha, hb, h => by
    have h1 := List.cons.inj h
    obtain ⟨e1, e2⟩ := cut_space a b r s (fun hh => ha (List.mem_cons_of_mem _ hh)) (fun hh => hb (List.mem_cons_of_mem _ hh)) h1.2
    exact ⟨by rw [h1.1, e1], e2⟩
theorem dec_digit (n : Nat) : ∀ c ∈ Lib.decDigits n, 48 ≤ c.toNat ∧ c.toNat ≤ 57 := by
  induction n using Nat.strongRecOn with
  | ind n ih =>
    intro c hc
    rw [Lib.decDigits] at hc
    split at hc
    · rename_i h
      have := List.mem_singleton.1 hc
      rw [this, UInt8.toNat_ofNat']
      omega
    · rename_i h
      rcases List.mem_append.1 hc with hc | hc
      · exact ih (n / 10) (by omega) c hc
      · have := List.mem_singleton.1 hc
        rw [this, UInt8.toNat_ofNat']
        omega
theorem dec_inj (n : Nat) : ∀ m, Lib.decDigits n = Lib.decDigits m → n = m := by
  induction n using Nat.strongRecOn with
  | ind n ih =>
    intro m h
    have dig : ∀ a b : Nat, a < 10 → b < 10 → UInt8.ofNat (48 + a) = UInt8.ofNat (48 + b) → a = b := fun a b ha hb h => by
      have := congrArg UInt8.toNat h
      rw [UInt8.toNat_ofNat', UInt8.toNat_ofNat'] at this
      omega
    have pos : ∀ n, 0 < (Lib.decDigits n).length := fun n => by
      rw [Lib.decDigits]
      split <;> simp
    by_cases hn : n < 10
    · by_cases hm : m < 10
      · rw [Lib.decDigits_one hn, Lib.decDigits_one hm] at h
        exact dig n m hn hm (List.cons.inj h).1
      · rw [Lib.decDigits_one hn, Lib.decDigits, dif_neg hm] at h
        have h1 := congrArg List.length h
        have := pos (m / 10)
        rw [List.length_append] at h1
        simp only [List.length_cons, List.length_nil] at h1
        omega
    · by_cases hm : m < 10
      · rw [Lib.decDigits_one hm, Lib.decDigits, dif_neg hn] at h
        have h1 := congrArg List.length h
        have := pos (n / 10)
        rw [List.length_append] at h1
        simp only [List.length_cons, List.length_nil] at h1
        omega
      · have hn2 : Lib.decDigits n = Lib.decDigits (n / 10) ++ [UInt8.ofNat (48 + n % 10)] := by rw [Lib.decDigits, dif_neg hn]
        have hm2 : Lib.decDigits m = Lib.decDigits (m / 10) ++ [UInt8.ofNat (48 + m % 10)] := by rw [Lib.decDigits, dif_neg hm]
        rw [hn2, hm2] at h
        have h1 := List.append_inj' h rfl
        have h2 := ih (n / 10) (by omega) (m / 10) h1.1
        have h3 := dig (n % 10) (m % 10) (by omega) (by omega) (List.cons.inj h1.2).1
        omega
theorem itoa_inj (a b : Int) (h : Lib.itoa a = Lib.itoa b) : a = b := by
  have no : ∀ n m : Nat, 45 :: Lib.decDigits n ≠ Lib.decDigits m := fun n m h => by
    have := (dec_digit m 45 (h ▸ List.mem_cons_self ..)).1
    exact absurd this (by decide)
  unfold Lib.itoa at h
  split at h <;> split at h
  · have := dec_inj _ _ (List.cons.inj h).2
    omega
  · exact (no _ _ h).elim
  · exact (no _ _ h.symm).elim
  · have := dec_inj _ _ h
    omega
theorem itoa_space (a : Int) : (32 : UInt8) ∉ Lib.itoa a := by
  have no : ∀ n : Nat, (32 : UInt8) ∉ Lib.decDigits n := fun n h => absurd (dec_digit n 32 h).1 (by decide)
  unfold Lib.itoa
  split
  · intro h
    rcases List.mem_cons.1 h with h | h
    · exact absurd h (by decide)
    · exact no _ h
  · exact no _
/-- What stands behind the process. -/
def restL (e : Ev) : List UInt8 := sepL (wordsL e)
theorem show_list (e : Ev) (h : wordsL e ≠ []) : (showE e).data.toList = Lib.itoa e.p ++ 32 :: restL e := by
  unfold showE
  rw [if_neg h]
  have h1 := str_app (Lib.itoa e.p) [32]
  have h2 := str_app (Lib.itoa e.p ++ [32]) (restL e)
  have h3 : itoaS e.p ++ ⟨#[32]⟩ ++ ⟨(sepL (wordsL e)).toArray⟩ = (⟨(Lib.itoa e.p ++ [32] ++ restL e).toArray⟩ : ByteArray) := (congrArg (· ++ (⟨(restL e).toArray⟩ : ByteArray)) h1).trans h2
  rw [h3]
  simp
/-- The first letters of what stands behind the process tell the kind. -/
def headOf (k : Int) : List UInt8 := if k = 1 then [115, 101] else if k = 2 then [103, 111] else if k = 3 then [119, 114] else if k = 4 then [97, 115] else if k = 5 then [114, 101, 97] else [114, 101, 102]
theorem words_kind (e : Ev) (h : wordsL e ≠ []) : e.kind = 1 ∨ e.kind = 2 ∨ e.kind = 3 ∨ e.kind = 4 ∨ e.kind = 5 ∨ e.kind = 6 := by
  refine Classical.byContradiction fun hh => h ?_
  unfold wordsL
  rw [if_neg (by omega), if_neg (by omega), if_neg (by omega), if_neg (by omega), if_neg (by omega), if_neg (by omega)]
theorem rest_head (e : Ev) (h : wordsL e ≠ []) : ∃ r, restL e = headOf e.kind ++ r := by
  have hj : ∀ (b : List UInt8) (x : ByteArray) (l : List ByteArray) (hx : x.data.toList = b), ∃ r, sepL (x :: l) = b ++ r := fun b x l hx => ⟨_, by unfold sepL; rw [List.map_cons, Lib.join_cons, hx]⟩
  unfold restL wordsL headOf
  rcases words_kind e h with hk | hk | hk | hk | hk | hk
  · rw [if_pos hk, if_pos hk]
    obtain ⟨r, hr⟩ := hj [115, 101, 110, 116] ⟨#[115, 101, 110, 116]⟩ [numS e.num, Dst.showS e.dst] rfl
    exact ⟨[110, 116] ++ r, hr⟩
  · rw [if_neg (by omega), if_pos hk, if_neg (by omega), if_pos hk]
    obtain ⟨r, hr⟩ := hj [103, 111, 116] ⟨#[103, 111, 116]⟩ [itoaS e.frm, numS e.num] rfl
    exact ⟨[116] ++ r, hr⟩
  · rw [if_neg (by omega), if_neg (by omega), if_pos hk, if_neg (by omega), if_neg (by omega), if_pos hk]
    obtain ⟨r, hr⟩ := hj [119, 114, 111, 116, 101] ⟨#[119, 114, 111, 116, 101]⟩ [itoaS e.var, floS e.x, numS e.tag] rfl
    exact ⟨[111, 116, 101] ++ r, hr⟩
  · rw [if_neg (by omega), if_neg (by omega), if_neg (by omega), if_pos hk, if_neg (by omega), if_neg (by omega), if_neg (by omega), if_pos hk]
    obtain ⟨r, hr⟩ := hj [97, 115, 107, 115] ⟨#[97, 115, 107, 115]⟩ [itoaS e.var] rfl
    exact ⟨[107, 115] ++ r, hr⟩
  · rw [if_neg (by omega), if_neg (by omega), if_neg (by omega), if_neg (by omega), if_pos hk, if_neg (by omega), if_neg (by omega), if_neg (by omega), if_neg (by omega), if_pos hk]
    obtain ⟨r, hr⟩ := hj [114, 101, 97, 100] ⟨#[114, 101, 97, 100]⟩ [itoaS e.var, floS e.x, itoaS e.frm, numS e.tag] rfl
    exact ⟨[100] ++ r, hr⟩
  · rw [if_neg (by omega), if_neg (by omega), if_neg (by omega), if_neg (by omega), if_neg (by omega), if_pos hk, if_neg (by omega), if_neg (by omega), if_neg (by omega), if_neg (by omega), if_neg (by omega)]
    obtain ⟨r, hr⟩ := hj [114, 101, 102, 117, 115, 101, 100] ⟨#[114, 101, 102, 117, 115, 101, 100]⟩ [itoaS e.err] rfl
    exact ⟨[117, 115, 101, 100] ++ r, hr⟩
theorem rest_kind (a b : Ev) (ha : wordsL a ≠ []) (hb : wordsL b ≠ []) (h : restL a = restL b) : a.kind = b.kind := by
  obtain ⟨r, hr⟩ := rest_head a ha
  obtain ⟨s, hs⟩ := rest_head b hb
  rw [hr, hs] at h
  unfold headOf at h
  rcases words_kind a ha with k1 | k1 | k1 | k1 | k1 | k1 <;> rcases words_kind b hb with k2 | k2 | k2 | k2 | k2 | k2 <;> first | (rw [k1, k2]; done) | (rw [k1, k2] at h; simp at h)
theorem show_unlike (a b : Ev) (ha : wordsL a ≠ []) (hb : wordsL b ≠ []) (h : a.kind ≠ b.kind ∨ a.p ≠ b.p) : (showE a).data.toList ≠ (showE b).data.toList := by
  rw [show_list a ha, show_list b hb]
  intro e
  obtain ⟨h1, h2⟩ := cut_space _ _ _ _ (itoa_space a.p) (itoa_space b.p) e
  rcases h with h | h
  · exact h (rest_kind a b ha hb h2)
  · exact h (itoa_inj _ _ h1)
theorem fkey_num {a : Nat} (h : isN a = false) (ha : a < B64) : fkey a < B64 - 1 := by
  have h64 := b64_is
  have h63 := b63_is
  have hI := inf_is
  unfold isN at h
  have h' := of_decide_eq_false h
  unfold fkey isN
  rw [if_neg (by rw [decide_eq_true_eq]; exact h')]
  split
  · rename_i hl
    rw [mod_low hl] at h'
    omega
  · omega
theorem flo_alike {x y : Nat} (hx : x < B64) (hy : y < B64) (h : sameW x y = true) : floS x = floS y := by
  have hk : fkey x = fkey y := beq_iff_eq.1 h
  have h2 := b63_two
  cases h3 : isN x with
  | true =>
    cases h4 : isN y with
    | true =>
      unfold floS showW
      rw [if_pos h3, if_pos h4]
    | false =>
      have h5 := fkey_num h4 hy
      have h6 : fkey x = B64 - 1 := if_pos h3
      omega
  | false =>
    cases h4 : isN y with
    | true =>
      have h5 := fkey_num h3 hx
      have h6 : fkey y = B64 - 1 := if_pos h4
      omega
    | false =>
      have e : x = y := by
        have e1 : fkey x = if x < B63 then x + B63 else B64 - 1 - x := if_neg (by rw [h3]; decide)
        have e2 : fkey y = if y < B63 then y + B63 else B64 - 1 - y := if_neg (by rw [h4]; decide)
        rw [e1, e2] at hk
        split at hk <;> split at hk <;> omega
      rw [e]
theorem show_alike (a b : Ev) (hx : a.x < B64) (hy : b.x < B64) (h : sameE a b = true) : showE a = showE b := by
  obtain ⟨k, p, f, n, d, v, x, g, r⟩ := a
  obtain ⟨k', p', f', n', d', v', x', g', r'⟩ := b
  unfold sameE restB at h
  simp only [Bool.and_eq_true, beq_iff_eq] at h
  obtain ⟨⟨rfl, rfl, rfl, rfl, rfl, rfl, rfl, rfl⟩, hs⟩ := h
  have hf := flo_alike hx hy hs
  unfold showE wordsL
  dsimp only at hf ⊢
  rw [hf]
theorem show_none (e : Ev) : (showE e).data.toList = [] ↔ wordsL e = [] := by
  constructor
  · intro h
    refine Classical.byContradiction fun hh => ?_
    rw [show_list e hh] at h
    simp at h
  · intro h
    unfold showE
    rw [if_pos h]
    rfl
end Go.Proofs.YtlklbdnlpljaiaaDoor
