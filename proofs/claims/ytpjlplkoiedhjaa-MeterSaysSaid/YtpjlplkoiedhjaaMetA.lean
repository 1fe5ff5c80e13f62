/-
  Where a key lies among keys that rise.
-/
import Derived.Test.YtpjlplkoiedhjaaMetF
import Derived.Test.YtpjlplkoiedhjaaFlat
namespace Go.Proofs.Ytpjlplkoiedhjaa
open Go.RowKit Go.Shoal

/-- How many are below. -/
def rank (l : List Nat) (x : Nat) : Nat := (l.filter fun k => decide (k < x)).length
def Rises (l : List Nat) : Prop := l.Pairwise (· ≤ ·)
theorem rank_le (l : List Nat) (x : Nat) : rank l x ≤ l.length := List.length_filter_le _ _
theorem rank_iff : ∀ (l : List Nat) (x : Nat), Rises l → ∀ (k a : Nat), l[k]? = some a → (a < x ↔ k < rank l x)
  | [], _, _, _, _, h => by cases h
  | b :: r, x, hr, k, a, h => by
    obtain ⟨h1, h2⟩ := List.pairwise_cons.1 hr
    by_cases hb : b < x
    · have e : rank (b :: r) x = rank r x + 1 := by unfold rank; rw [List.filter_cons]; simp [hb]
      rw [e]
      cases k with
      | zero =>
        have : b = a := by simpa using h
        omega
      | succ k =>
        have := rank_iff r x h2 k a (by simpa using h)
        omega
    · have e : rank (b :: r) x = 0 := by
        unfold rank
        rw [List.length_eq_zero_iff, List.filter_eq_nil_iff]
        intro c hc
        rcases List.mem_cons.1 hc with rfl | hc
        · simpa using hb
        · have := h1 c hc
          simp; omega
      rw [e]
      have hab : b ≤ a := by
        cases k with
        | zero =>
          have : b = a := by simpa using h
          omega
        | succ k => exact h1 a (List.mem_of_getElem? (by simpa using h))
      omega
def keyCell (k : Nat) : List Value := [.int .u64 (k : Int)]
theorem keyCell_len (k : Nat) : (keyCell k).length = 1 := rfl
/-- A slice of keys. -/
def Keys (w : World) (v : Value) (l : List Nat) : Prop := RowOf w 52 1 v l.length (l.flatMap keyCell)
theorem keys_one (l : List Nat) : ∀ u ∈ l.flatMap keyCell, u.oneCell' = true := by
  intro u hu
  obtain ⟨p, _, hp⟩ := List.mem_flatMap.1 hu
  simp only [keyCell, List.mem_cons, List.not_mem_nil, or_false] at hp
  subst hp
  rfl
theorem Keys.elem {w : World} {v : Value} {l : List Nat} (h : Keys w v l) {k a : Nat} (hk : l[k]? = some a) : ∃ b o cap, v = .slice (some ⟨b, o, none⟩) l.length cap ∧ b < w.heap.size ∧ w.cell? ⟨b, o + k, none⟩ = some (.int .u64 (a : Int)) := by
  obtain ⟨b, o, cap, he, hb, hc⟩ := RowOf.elem keyCell_len h hk
  refine ⟨b, o, cap, he, hb, ?_⟩
  have := hc 0 _ rfl
  rw [Nat.mul_one] at this
  exact this
theorem cmpnan_any (x : Nat) (w : World) : Calls Try.prog 52 #[.int .u64 x] w fun e w' => e = .returned (.bool false) ∧ w = w' := by
  have h : ((x : Int) != (x : Int)) = false := by simp
  go_enter Try.func52, Try.ntmps52
  go_wp2
  go_ret
  exact ⟨rfl, rfl⟩
theorem slnan_any (x : Nat) (w : World) : Calls Try.prog 47 #[.int .u64 x] w fun e w' => e = .returned (.bool false) ∧ w = w' := by
  have h : ((x : Int) != (x : Int)) = false := by simp
  go_enter Try.func47, Try.ntmps47
  go_wp2
  go_ret
  exact ⟨rfl, rfl⟩
theorem less_any (x y : Nat) (w : World) : Calls Try.prog 46 #[.int .u64 x, .int .u64 y] w fun e w' => e = .returned (.bool (decide (x < y))) ∧ w = w' := by
  have HX := Lib.hid (cmpnan_any x w)
  go_enter Try.func46, Try.ntmps46
  go_wp2_with fail
  refine HX.out.mono ?_
  rintro e w1 ⟨rfl, rfl⟩
  go_wp2
  go_ret
  exact ⟨by simp, rfl⟩
/-- What a search tells. -/
def Found (w : World) (r : Nat) (e : Ending) (w' : World) : Prop := (∃ b, e = .returned (.tuple #[.int .i64 (r : Int), .bool b])) ∧ w = w'
set_option maxRecDepth 100000 in
set_option maxHeartbeats 2000000 in
theorem search_any (v : Value) (l : List Nat) (x : Nat) (w : World) (h : Keys w v l) (hr : Rises l) (hl : l.length ≤ 1000000) :
    Calls Try.prog 37 #[v, .int .u64 x] w (Found w (rank l x)) := by
  have HK := Lib.hid h
  have HR := Lib.hid (rank_iff l x hr)
  have hrl := rank_le l x
  obtain ⟨A, c, rfl⟩ := RowOf.form h
  obtain ⟨r, hrk⟩ : ∃ r, r = rank l x := ⟨_, rfl⟩
  rw [← hrk] at HR hrl ⊢
  clear h hr hrk
  go_enter Try.func37, Try.ntmps37
  go_wp2
  go_loop [7, 8] (fun i j => ∃ a b : Nat, i = .int .i64 a ∧ j = .int .i64 b ∧ a ≤ r ∧ r ≤ b ∧ b ≤ l.length) (fun i j => (intOf j).toNat - (intOf i).toNat)
  case atStart => exact ⟨0, l.length, rfl, rfl, Nat.zero_le _, hrl, Nat.le_refl _⟩
  case round =>
    obtain ⟨a, b, rfl, rfl, h1, h2, h3⟩ := hrel
    by_cases hlt : a < b
    · obtain ⟨y, hy⟩ : ∃ y, l[(a + b) / 2]? = some y := ⟨_, List.getElem?_eq_getElem (by omega)⟩
      obtain ⟨bb, o, cap, he, hbz, hc⟩ := Keys.elem HK.out hy
      cases he
      have HL := Lib.hid (less_any y x)
      have HY := Lib.hid (HR.out _ y hy)
      clear hy
      by_cases hyx : y < x
      · have hkr := HY.out.1 hyx
        have tyx : decide (y < x) = true := decide_eq_true hyx
        clear hyx
        go_wp2_with fail
        refine (HL.out _).mono ?_
        rintro e w1 ⟨rfl, rfl⟩
        rw [tyx]
        go_wp2
        go_round
        case rel => exact ⟨(a + b) / 2 + 1, b, by rw [show ((a : Int) + (b : Int)) / 2 + 1 = (((a + b) / 2 + 1 : Nat) : Int) by omega], rfl, by omega, h2, h3⟩
        case measure => simp [intOf]; omega
      · have hkr : r ≤ (a + b) / 2 := by
          have := HY.out
          omega
        have tyx : decide (y < x) = false := decide_eq_false hyx
        clear hyx
        go_wp2_with fail
        refine (HL.out _).mono ?_
        rintro e w1 ⟨rfl, rfl⟩
        rw [tyx]
        go_wp2
        go_round
        case rel => exact ⟨a, (a + b) / 2, rfl, by rw [show ((a : Int) + (b : Int)) / 2 = (((a + b) / 2 : Nat) : Int) by omega], h1, hkr, by omega⟩
        case measure => simp [intOf]; omega
    · obtain rfl : a = r := by omega
      have HN := Lib.hid (slnan_any)
      by_cases hn : a < l.length
      · obtain ⟨y, hy⟩ : ∃ y, l[a]? = some y := ⟨_, List.getElem?_eq_getElem hn⟩
        obtain ⟨bb, o, cap, he, hbz, hc⟩ := Keys.elem HK.out hy
        cases he
        have ha0 : (0 : Int) ≤ (a : Int) := by omega
        have ha1 : (a : Int) < (l.length : Int) := by omega
        clear hy
        cases tq : ((y : Int) == (x : Int))
        · go_wp2_with fail
          refine (HN.out y _).mono ?_
          rintro e w1 ⟨rfl, rfl⟩
          go_wp2
          go_ret2
          exact ⟨⟨_, rfl⟩, rfl⟩
        · go_wp2
          go_ret2
          exact ⟨⟨_, rfl⟩, rfl⟩
      · have tn : decide ((a : Int) < (l.length : Int)) = false := decide_eq_false (by omega)
        have tn' : decide (a < l.length) = false := decide_eq_false hn
        go_wp2
        go_ret2
        exact ⟨⟨_, rfl⟩, rfl⟩
end Go.Proofs.Ytpjlplkoiedhjaa
