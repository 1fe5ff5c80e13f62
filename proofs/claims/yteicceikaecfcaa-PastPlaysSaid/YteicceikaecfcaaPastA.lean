/-
  Package past: sets of places; join.
-/
import Derived.Test.YteicceikaecfcaaPlaceA
import Derived.Test.YteicceikaecfcaaSetMap
import Derived.Test.YteicceikaecfcaaRowOf
import Derived.Test.YteicceikaecfcaaPart
namespace Go.Proofs.Yteicceikaecfcaa
open Go.RowKit Go.Shoal Go.Maps

theorem law_int : Keyed Try.prog 3 := int_keyed Try.underlying3
theorem zero_bool (w : World) : (zeroValue 4).run Try.prog w = .ok (.bool false) w := by kernel_rfl
theorem zero_set (w : World) : (zeroValue 37).run Try.prog w = .ok (.int .u64 0) w := by kernel_rfl
abbrev SetsAt (w : World) (b : Nat) (f : Nat → Bool) : Prop := SetAt Try.prog 3 4 w b f
abbrev HadAt (w : World) (b : Nat) (h : Nat → Nat) : Prop := WordsAt Try.prog 3 37 w b h
theorem look_set {w : World} {b : Nat} {f : Nat → Bool} (h : SetsAt w b f) (k : Nat) (hk : k < 9223372036854775808) : (Instr.lookup 71 (.map (some b)) (.int .i64 (k : Int)) false).run Try.prog w = .ok (.bool (f k)) w :=
  SetAt.lookup h Try.underlying3 Try.underlying4 Try.underlying71 (zero_bool w) k hk
theorem look_had {w : World} {b : Nat} {f : Nat → Nat} (h : HadAt w b f) (k : Nat) (hk : k < 9223372036854775808) : (Instr.lookup 66 (.map (some b)) (.int .i64 (k : Int)) false).run Try.prog w = .ok (.int .u64 (f k)) w :=
  WordsAt.lookup h Try.underlying3 Try.underlying37 Try.underlying66 (zero_set w) k hk
/-- While a set is joined to another. -/
structure JoinRel (w : World) (s t n : Nat) (f g : Nat → Bool) (D : DataW Unit) (left : Lit → Bool) (cnt : Nat) (wr : World) : Prop where
  set : SetsAt wr s (fun x => f x || (g x && !left (.int .i64 (x : Int))))
  rng : wr.ranges Try.prog 3 (plainElem Try.prog 4) t w.heap.size n D left cnt
  md : Mod (· = s) w wr
theorem same_int (x k : Nat) : (Lit.int .i64 (x : Int)).sameKey (.int .i64 (k : Int)) = (x == k) := by
  by_cases h : x = k
  · subst h
    rw [WideAt.sameKey_self (a := .int .i64 (x : Int)) trivial]; simp
  · rw [Maps.sameKey_ne (lit_ne h)]; simp [h]
theorem JoinRel.next {w wr w1 w2 : World} {s t n : Nat} {f g : Nat → Bool} {D : DataW Unit} {left : Lit → Bool} {cnt cnt1 k : Nat} (h : JoinRel w s t n f g D left cnt wr) (hg : g k = true) (hst : s ≠ t) (hs : s < w.heap.size)
    (h1 : wr.grownBy w1 (some w.heap.size)) (hrg : w1.ranges Try.prog 3 (plainElem Try.prog 4) t w.heap.size n D (fun z => left z && !z.sameKey (.int .i64 (k : Int))) cnt1)
    (hset : SetsAt w2 s (fun x => (f x || (g x && !left (.int .i64 (x : Int)))) || x == k)) (h2 : w1.grownBy w2 (some s)) : JoinRel w s t n f g D (fun z => left z && !z.sameKey (.int .i64 (k : Int))) cnt1 w2 := by
  refine ⟨?_, hrg.kept h2 (by simp; omega) (by simp; omega), ?_⟩
  · have e : (fun x => (f x || (g x && !left (.int .i64 (x : Int)))) || x == k) = fun x => f x || (g x && !(left (.int .i64 (x : Int)) && !(Lit.int .i64 (x : Int)).sameKey (.int .i64 (k : Int)))) := by
      funext x
      rw [same_int]
      by_cases hx : x = k
      · subst hx
        rw [hg]; simp
      · have e : (x == k) = false := by simp [hx]
        rw [e]; simp
    rw [← e]
    exact hset
  · have m1 : Mod (· = s) w w1 := h.md.grown h1 (fun k e => by cases e; exact Nat.le_refl _)
    exact m1.trans (Mod.of_grown h2 (fun k e _ => by cases e; rfl))
set_option maxRecDepth 100000 in
set_option maxHeartbeats 1000000 in
theorem join_any (s t : Nat) (f g : Nat → Bool) (w : World) (hs : SetsAt w s f) (ht : SetsAt w t g) (hst : s ≠ t) :
    Calls Try.prog 29 #[.map (some s), .map (some t)] w fun e w' => e = .returned (.tuple #[]) ∧ SetsAt w' s (fun x => f x || g x) ∧ Mod (· = s) w w' := by
  have hsz := hs.lt_size
  have HS := Lib.hid hs
  obtain ⟨D, hown, hd⟩ := ht
  have HD := Lib.hid hd
  have HO := Lib.hid hown
  clear hs hown hd
  go_enter Try.func29, Try.ntmps29
  go_wp2_with (first
    | (at_range; refine wpList_range_own _ rfl _ 71 rfl 3 4 law_int Try.underlying71 (plainElem Try.prog 4) t 1000 D rfl HO.out ?_; intro w0 hrg0 hg0 hs0)
    | go_in)
  go_frame
  have H0 : Hid (JoinRel w s t 1000 f g D (Maps.has D) (Maps.size D) w0) := by
    refine ⟨?_, hrg0, Mod.of_grown hg0 (fun k e _ => by cases e)⟩
    have e : (fun x => f x || (g x && !Maps.has D (.int .i64 (x : Int)))) = f := by
      funext x
      rw [HD.out.1 x]
      cases f x <;> cases g x <;> rfl
    rw [e]
    exact HS.out.keep (hg0.block s hsz (by simp))
  clear hrg0 hg0 hs0
  go_loopw [4] (fun _ wr => ∃ (left : Lit → Bool) (cnt : Nat), Hid (JoinRel w s t 1000 f g D left cnt wr)) (fun _ wr => wr.rangeLeft t w.heap.size)
  case atStart => exact ⟨_, _, H0⟩
  case round =>
    obtain ⟨left, cnt, hR⟩ := hrel
    go_wp2_with (first
      | (at_next; refine wpList_next_set _ rfl _ rfl Try.underlying3 Try.underlying4 t w.heap.size 1000 D HD.out left cnt rfl hR.out.rng ?_ ?_)
      | go_in)
    · intro hl0
      have HE : Hid (SetsAt wr s (fun x => f x || g x) ∧ Mod (· = s) w wr) := by
        refine ⟨?_, hR.out.md⟩
        have h := hR.out.set
        have e : (fun x => f x || (g x && !left (.int .i64 (x : Int)))) = fun x => f x || g x := by
          funext x
          rw [hl0.out]; simp
        rw [e] at h
        exact h
      go_wp2
      go_end0
      exact ⟨rfl, HE.out⟩
    · intro k w1 cnt1 HN hen
      obtain ⟨hk, hgk, hrg1, hlt, hg1, hs1⟩ := HN.out
      have hset1 : SetsAt w1 s (fun x => f x || (g x && !left (.int .i64 (x : Int)))) := hR.out.set.keep (hg1.block s (Nat.lt_of_lt_of_le hsz hR.out.md.size) (by simp; omega))
      obtain ⟨w2, hrun, hset2, hg2, hs2⟩ := SetAt.store hset1 Try.underlying3 Try.underlying4 Try.underlying71 k hk
      have HJ : Hid (JoinRel w s t 1000 f g D (fun z => left z && !z.sameKey (.int .i64 (k : Int))) cnt1 w2) := hR.out.next hgk hst hsz hg1 hrg1 hset2 hg2
      have HM : Hid (w2.rangeLeft t w.heap.size < wr.rangeLeft t w.heap.size) := by
        show _ < _
        rw [HJ.out.rng.left_eq, hR.out.rng.left_eq]
        exact hlt
      clear hk hgk hrg1 hlt hg1 hs1 hset1 hset2 hg2 hs2
      go_wp2
      go_roundw
      case rel => exact ⟨_, _, HJ⟩
      case measure => exact HM.out
end Go.Proofs.Yteicceikaecfcaa
