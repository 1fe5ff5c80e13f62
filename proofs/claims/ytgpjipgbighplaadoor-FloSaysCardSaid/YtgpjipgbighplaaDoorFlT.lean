/-
  Both Parses on any text.
-/
import Derived.Test.YtgpjipgbighplaaDoorFlS
namespace Go.Proofs.YtgpjipgbighplaaDoor
open Go.RowKit Go.Shoal

set_option maxRecDepth 100000 in
set_option maxHeartbeats 2000000 in
theorem parse_okg (s : List UInt8) (n : Nat) (h0 : s.length ≠ 0) (hl : s.length ≤ 40) (e1 : (s == [110, 97, 110]) = false) (e2 : (s == [105, 110, 102]) = false) (e3 : (s == [45, 105, 110, 102]) = false) (hn : n < B64) (hp : puX 0 s = .ok n) (w : World) (hT : Tab w) :
    Calls Tryd.prog 20 #[.string ⟨s.toArray⟩] w fun e w' => e = .returned (pairF (if showW n = s then (n, true) else (0, false))) ∧ Mod (fun _ => False) w w' := by
  have H1 := Lib.hid (nan_any w)
  have H2 := Lib.hid (pu_ok ⟨s.toArray⟩ n (by show s.length ≠ 0; omega) (by show s.length ≤ _; omega) hp w)
  have HS := Lib.hid (fun w' => show_any n hn w')
  have HT := Lib.hid hT
  generalize hr : (if showW n = s then (n, true) else (0, false) : Nat × Bool) = r
  have HR := Lib.hid hr
  clear hT hp hr
  go_enter Tryd.func20, Tryd.ntmps20
  go_wp2_with fail
  refine H1.out.mono ?_
  rintro e w1 ⟨rfl, rfl⟩
  go_wp2_with fail
  refine H2.out.mono ?_
  rintro e w1 ⟨rfl, hm⟩
  have HM1 := Lib.hid hm
  have HS1 := Lib.hid (HS.out w1 (HT.out.mod hm (fun x => x)))
  clear hm H1 H2 HS
  go_wp2_with fail
  refine HS1.out.mono ?_
  rintro e w2 ⟨rfl, hm⟩
  have HM2 := Lib.hid (HM1.out.trans hm)
  clear hm HS1
  by_cases hq : showW n = s
  · have q1 : (showW n == s) = true := beq_iff_eq.2 hq
    have HRR : Hid (r = (n, true)) := by show _ = _; rw [← HR.out, if_pos hq]
    clear hq
    go_wp2
    go_ret2
    exact ⟨by rw [HRR.out]; rfl, HM2.out⟩
  · have q1 : (showW n == s) = false := beq_eq_false_iff_ne.2 hq
    have HRR : Hid (r = (0, false)) := by show _ = _; rw [← HR.out, if_neg hq]
    clear hq
    go_wp2
    go_ret2
    exact ⟨by rw [HRR.out]; rfl, HM2.out⟩
theorem puX_lt (s : List UInt8) : ∀ acc n, acc < 18446744073709551616 → puX acc s = .ok n → n < 18446744073709551616 := by
  induction s with
  | nil => intro acc n h e; cases e; exact h
  | cons c s ih =>
    intro acc n h e
    rw [puX] at e
    by_cases h1 : 16 ≤ digX c
    · rw [if_pos h1] at e; cases e
    · rw [if_neg h1] at e
      by_cases h2 : 1152921504606846976 ≤ acc
      · rw [if_pos h2] at e; cases e
      · rw [if_neg h2] at e
        exact ih _ n (by omega) e
theorem hexF_low (n : Nat) : ∀ (v : Nat) (ds : List UInt8), (∀ c ∈ ds, lowX c = true) → ∀ c ∈ hexF n v ds, lowX c = true := by
  induction n with
  | zero => intro v ds h; exact h
  | succ n ih =>
    intro v ds h
    have hx : ∀ d, d < 16 → ∀ c ∈ hexD d :: ds, lowX c = true := fun d hd c hc => (List.mem_cons.1 hc).elim (fun e => by rw [e]; exact hexD_low d hd) (h c)
    rw [hexF]
    split
    · exact hx v (by assumption)
    · exact ih _ _ (hx _ (Nat.mod_lt _ (by decide)))
theorem hex16_low (u : Nat) : (hex16 u).all lowX = true := List.all_eq_true.2 fun c hc => by
  rcases List.mem_append.1 hc with h | h
  · rw [List.eq_of_mem_replicate h]; decide
  · exact hexF_low 16 u [] (fun _ h => by cases h) c h
theorem show_forms (n : Nat) : showW n = [110, 97, 110] ∨ showW n = [105, 110, 102] ∨ showW n = [45, 105, 110, 102] ∨ showW n = hex16 n := by
  unfold showW
  split
  · exact .inl rfl
  · split
    · exact .inr (.inl rfl)
    · split
      · exact .inr (.inr (.inl rfl))
      · exact .inr (.inr (.inr rfl))
/-- What a text tells. -/
def parseW (s : List UInt8) : Nat × Bool :=
  if s = [110, 97, 110] then (nanW, true) else if s = [105, 110, 102] then (INF, true) else if s = [45, 105, 110, 102] then (INF + B63, true) else if s.length = 16 then parseL s else (0, false)
theorem low_val (s : List UInt8) (hl : s.length = 16) (h : s.all lowX = true) : puX 0 s = .ok (valX 0 s) := by
  have hd : ∀ c ∈ s, digX c < 16 := fun c hc => by
    have := lowX_dig c (List.all_eq_true.1 h c hc)
    rw [this.1]; exact this.2
  have hb : ∀ (D : List UInt8) acc, (∀ c ∈ D, digX c < 16) → valX acc D < (acc + 1) * 16 ^ D.length := by
    intro D
    induction D with
    | nil => intro acc _; show acc < (acc + 1) * 1; omega
    | cons c D ih =>
      intro acc hD
      have h1 := ih (acc * 16 + digX c) (fun x hx => hD x (List.mem_cons_of_mem _ hx))
      have h2 := hD c (List.mem_cons_self ..)
      show valX (acc * 16 + digX c) D < _
      refine Nat.lt_of_lt_of_le h1 ?_
      rw [List.length_cons, Nat.pow_succ, Nat.mul_comm (16 ^ D.length) 16, ← Nat.mul_assoc]
      exact Nat.mul_le_mul_right _ (by omega)
  refine puX_val s 0 hd (Nat.lt_of_lt_of_le (hb s 0 hd) ?_)
  rw [hl]
  decide
theorem parse_any (s : List UInt8) (hl : s.length ≤ 40) (w : World) (hT : Tab w) (hE : Errs w) : Calls Tryd.prog 20 #[.string ⟨s.toArray⟩] w fun e w' => e = .returned (pairF (parseW s)) ∧ Mod (fun _ => False) w w' := by
  unfold parseW
  by_cases h1 : s = [110, 97, 110]
  · subst h1
    rw [if_pos rfl]
    exact (parse_nan w).mono fun _ _ ⟨x, y⟩ => ⟨x, y ▸ Mod.refl _ _⟩
  by_cases h2 : s = [105, 110, 102]
  · subst h2
    rw [if_neg h1, if_pos rfl]
    exact (parse_inf w).mono fun _ _ ⟨x, y⟩ => ⟨x, y ▸ Mod.refl _ _⟩
  by_cases h3 : s = [45, 105, 110, 102]
  · subst h3
    rw [if_neg h1, if_neg h2, if_pos rfl]
    exact (parse_minf w).mono fun _ _ ⟨x, y⟩ => ⟨x, y ▸ Mod.refl _ _⟩
  rw [if_neg h1, if_neg h2, if_neg h3]
  have b1 := beq_eq_false_iff_ne.2 h1
  have b2 := beq_eq_false_iff_ne.2 h2
  have b3 := beq_eq_false_iff_ne.2 h3
  by_cases hb : s = [] ∨ ∀ n, puX 0 s ≠ .ok n
  · have e : (if s.length = 16 then parseL s else (0, false)) = (0, false) := by
      by_cases h16 : s.length = 16
      · rw [if_pos h16]
        unfold parseL
        cases ha : s.all lowX
        · rfl
        · exfalso
          rcases hb with rfl | hb
          · cases h16
          · exact hb _ (low_val s h16 ha)
      · exact if_neg h16
    rw [e]
    exact parse_err s hl hb b1 b2 b3 w hE
  · have h0 : s ≠ [] := fun e => hb (.inl e)
    obtain ⟨n, hn⟩ : ∃ n, puX 0 s = .ok n := by
      refine Classical.byContradiction fun hx => hb (.inr fun n hn => hx ⟨n, hn⟩)
    have hnb : n < B64 := by rw [b64_is]; exact puX_lt s 0 n (by decide) hn
    have hp := parse_okg s n (fun e => h0 (List.eq_nil_of_length_eq_zero e)) hl b1 b2 b3 hnb hn w hT
    have e : (if s.length = 16 then parseL s else (0, false)) = if showW n = s then (n, true) else (0, false) := by
      by_cases hq : showW n = s
      · rw [if_pos hq]
        have hx : s = hex16 n := by
          rcases show_forms n with h | h | h | h
          · exact absurd (hq.symm.trans h) h1
          · exact absurd (hq.symm.trans h) h2
          · exact absurd (hq.symm.trans h) h3
          · exact hq.symm.trans h
        have h16 : s.length = 16 := by rw [hx]; exact hex16_len n
        have ha : s.all lowX = true := by rw [hx]; exact hex16_low n
        rw [if_pos h16]
        unfold parseL
        have hv := low_val s h16 ha
        rw [hn] at hv
        cases hv
        rw [ha, if_pos rfl, if_pos hq]
      · rw [if_neg hq]
        by_cases h16 : s.length = 16
        · rw [if_pos h16]
          unfold parseL
          cases ha : s.all lowX
          · rfl
          · have hv := low_val s h16 ha
            rw [hn] at hv
            cases hv
            rw [if_pos rfl, if_neg hq]
        · exact if_neg h16
    rw [e]
    exact hp
end Go.Proofs.YtgpjipgbighplaaDoor
