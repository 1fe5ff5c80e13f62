/-
  Package past: a Past somewhere at or behind a base; awake.
-/
import Derived.Test.YteicceikaecfcaaPastK
namespace Go.Proofs.Yteicceikaecfcaa
open Go.RowKit Go.Shoal Go.Maps

/-- A Past that lies at or behind w0's end; nothing that was there has turned. -/
structure Lives (w0 : World) (B : Nat) (s : Pa) (w : World) : Prop where
  at' : PastAt w B s
  foot : ∀ b, Foot B s b → w0.heap.size ≤ b
  low : Below w0.heap.size w0 w
/-- A block that is none of its. -/
structure Held (q : Nat) (o : Obj) (B : Nat) (s : Pa) (w : World) : Prop where
  here : w.heap[q]? = some o
  away : ¬ Foot B s q
section
variable {w0 w w' : World} {B q : Nat} {s : Pa} {o : Obj}
theorem Lives.quiet (h : Lives w0 B s w) (hm : Mod (fun _ => False) w w') : Lives w0 B s w' :=
  ⟨h.at'.same hm, h.foot, h.low.trans (hm.none_below.mono h.low.size)⟩
theorem Lives.drew (h : Lives w0 B s w) : Lives w0 B s w.drew := h.quiet (Mod.refl _ _).drew
theorem Lives.alloc (h : Lives w0 B s w) (o : Obj) : Lives w0 B s (w.alloc o) := h.quiet ((Mod.refl _ _).alloc o)
theorem Lives.base {v : World} (h : Lives w0 B s w) (hv : Below v.heap.size v w0) : Lives v B s w :=
  ⟨h.at', fun b hb => Nat.le_trans hv.size (h.foot b hb), hv.trans (h.low.mono hv.size)⟩
/-- A write somewhere else. -/
theorem Lives.other {S : Nat → Prop} (h : Lives w0 B s w) (hm : Mod S w w') (h1 : ∀ b, S b → ¬ Foot B s b) (h2 : ∀ b, S b → w0.heap.size ≤ b) : Lives w0 B s w' :=
  ⟨h.at'.mod hm (fun b hb hs => h1 b hs hb), h.foot, Mod.then_below h.low hm h2 h.low.size⟩
theorem Held.quiet (h : Held q o B s w) (hm : Mod (fun _ => False) w w') : Held q o B s w' := ⟨hm.blk h.here (fun x => x), h.away⟩
theorem Held.alloc (h : Held q o B s w) (o' : Obj) : Held q o B s (w.alloc o') := h.quiet ((Mod.refl _ _).alloc o')
theorem Held.drew (h : Held q o B s w) : Held q o B s w.drew := h.quiet (Mod.refl _ _).drew
theorem Held.new (h : Lives w0 B s w) (o : Obj) : Held w.heap.size o B s (w.alloc o) := ⟨blk_new w o, fun hb => by have := h.at'.foot_lt hb; omega⟩
theorem Held.lt (h : Held q o B s w) : q < w.heap.size := blk_lt h.here
/-- A call that writes the Past alone. -/
theorem Lives.wrote {s' : Pa} (h : Lives w0 B s w) (h1 : PastAt w' B s') (h2 : Mod (Foot B s) w w') (h3 : ∀ b, Foot B s' b → Foot B s b ∨ w.heap.size ≤ b) : Lives w0 B s' w' :=
  ⟨h1, fun b hb => (h3 b hb).elim (h.foot b) (fun e => Nat.le_trans h.low.size e), Mod.then_below h.low h2 h.foot h.low.size⟩
theorem Held.wrote {s' : Pa} (h : Held q o B s w) (h2 : Mod (Foot B s) w w') (h3 : ∀ b, Foot B s' b → Foot B s b ∨ w.heap.size ≤ b) : Held q o B s' w' :=
  ⟨h2.blk h.here h.away, fun hb => (h3 q hb).elim h.away (fun e => by have := h.lt; omega)⟩
end
/-- New, in these words. -/
theorem lives_new (n : Nat) (w : World) (h1 : 1 ≤ n) (h2 : n ≤ 16) : Calls Try.prog 9 #[.int .i64 n] w fun e w' => ∃ B kB cB tB hB kb, e = .returned (.tuple #[.pointer (some ⟨B, 0, none⟩), .int .i64 0]) ∧ Lives w B (Pa.born n kB cB tB hB kb) w' :=
  (new_past n w h1 h2).mono fun _ _ ⟨B, kB, cB, tB, hB, kb, he, ha, hf, hm⟩ => ⟨B, kB, cB, tB, hB, kb, he, ha, hf, hm.none_below⟩
/-- Send, in these words: Q is what else is to be kept. -/
theorem lives_send {w0 w : World} {B : Nat} {s : Pa} (h : Lives w0 B s w) (f t : Nat) (hf : f < s.n) (ht : t < 18446744073709551616) (hg : s.goodTo f t = true) (hl : s.all.length < 1000) :
    Calls Try.prog 11 #[.pointer (some ⟨B, 0, none⟩), .int .i64 f, .int .u64 t] w fun e w' => ∃ M av, e = .returned (.tuple #[.agg #[.int .i64 (f : Int), .int .u64 ((cnt s.all f + 1 : Nat) : Int)], .int .i64 0]) ∧ Lives w0 B (s.sent f t M av) w' ∧ (∀ q o, Held q o B s w → Held q o B (s.sent f t M av) w') ∧ w.heap.size ≤ w'.heap.size :=
  (send_yes B s f t w h.at' hf ht hg hl).mono fun _ _ ⟨M, av, he, h1, h2, h3⟩ => ⟨M, av, he, h.wrote h1 h2 h3, fun _ _ hq => hq.wrote h2 h3, h2.size⟩
theorem lives_take {w0 w : World} {B : Nat} {s : Pa} (h : Lives w0 B s w) (p k : Nat) (m : Ms) (hp : p < s.n) (hk : s.all[k]? = some m) (ho : s.open m k p = true) :
    Calls Try.prog 12 #[.pointer (some ⟨B, 0, none⟩), .int .i64 p, .agg #[.int .i64 (m.frm : Int), .int .u64 (m.num : Int)]] w fun e w' => ∃ v, e = .returned (.bool true) ∧ Lives w0 B (s.took m k p v) w' ∧ (∀ q o, Held q o B s w → Held q o B (s.took m k p v) w') ∧ w.heap.size ≤ w'.heap.size :=
  (take_yes B s p k m w h.at' hp hk ho).mono fun _ _ ⟨v, he, h1, h2, h3⟩ => ⟨v, he, h.wrote h1 h2 h3, fun _ _ hq => hq.wrote h2 h3, h2.size⟩
theorem can_any (B : Nat) (s : Pa) (p k : Nat) (m : Ms) (w : World) (h : PastAt w B s) (hp : p < s.n) (hk : s.all[k]? = some m) :
    Calls Try.prog 15 #[.pointer (some ⟨B, 0, none⟩), .int .i64 p, .agg #[.int .i64 (m.frm : Int), .int .u64 (m.num : Int)]] w (Told w (.bool (s.can m k p))) := by
  cases ho : s.open m k p
  · exact can_shut B s p k m w h hp hk ho
  · exact can_at B s p k m w h hp hk ho
theorem of_two (a b : Int) (w : World) : Calls Try.prog 14 #[.slice (some ⟨w.heap.size, 0, none⟩) 2 2] (w.alloc (.cells #[.int .i64 a, .int .i64 b] 3)) fun e w' => e = .returned (.int .u64 ((oneOf a ||| oneOf b : Nat) : Int)) ∧ (w.alloc (.cells #[.int .i64 a, .int .i64 b] 3)) = w' := by
  have := of_any (.slice (some ⟨w.heap.size, 0, none⟩) 2 2) [a, b] (w.alloc (.cells #[.int .i64 a, .int .i64 b] 3)) (Ints.new w 3 2 [a, b]) (by simp)
  rw [show Shoal.setOf [a, b] = (oneOf a ||| oneOf b) by simp [Shoal.setOf]] at this
  exact this
theorem of_lone (a : Int) (w : World) : Calls Try.prog 14 #[.slice (some ⟨w.heap.size, 0, none⟩) 1 1] (w.alloc (.cells #[.int .i64 a] 3)) fun e w' => e = .returned (.int .u64 ((oneOf a : Nat) : Int)) ∧ (w.alloc (.cells #[.int .i64 a] 3)) = w' :=
  of_one _ a _ (Ints.new w 3 1 [a])
set_option maxRecDepth 100000 in
set_option maxHeartbeats 4000000 in
theorem awake_any (w : World) : Calls Try.prog 8 #[] w fun e w' => e = .returned (.bool true) ∧ Below w.heap.size w w' := by
  have HN := Lib.hid (lives_new 3 w (by decide) (by decide))
  have HOf1 : Hid (∀ w : World, Calls Try.prog 14 #[.slice (some ⟨w.heap.size, 0, none⟩) 2 2] (w.alloc (.cells #[.int .i64 1, .int .i64 2] 3)) fun e w' => e = .returned (.int .u64 6) ∧ (w.alloc (.cells #[.int .i64 1, .int .i64 2] 3)) = w') := fun w => of_two 1 2 w
  have HOf2 : Hid (∀ w : World, Calls Try.prog 14 #[.slice (some ⟨w.heap.size, 0, none⟩) 1 1] (w.alloc (.cells #[.int .i64 2] 3)) fun e w' => e = .returned (.int .u64 4) ∧ (w.alloc (.cells #[.int .i64 2] 3)) = w') := fun w => of_lone 2 w
  go_enter Try.func8, Try.ntmps8
  go_wp2_with fail
  refine HN.out.mono ?_
  rintro e w1 ⟨B, kB, cB, tB, hB, kb, rfl, hl⟩
  have HL1 := Lib.hid hl
  clear hl HN
  go_wp2_with fail
  refine (HOf1.out _).mono ?_
  rintro e u ⟨rfl, rfl⟩
  have HC1 : Hid (Calls Try.prog 11 #[.pointer (some ⟨B, 0, none⟩), .int .i64 0, .int .u64 6] (w1.alloc (.cells #[.int .i64 1, .int .i64 2] 3)) fun e w' => ∃ M av, e = .returned (.tuple #[.agg #[.int .i64 0, .int .u64 1], .int .i64 0]) ∧ Lives w B ((Pa.born 3 kB cB tB hB kb).sent 0 6 M av) w' ∧ _ ∧ _) :=
    lives_send (HL1.out.alloc (.cells #[.int .i64 1, .int .i64 2] 3)) 0 6 (by show 0 < 3; decide) (by decide) (by kernel_rfl) (by show 0 < 1000; decide)
  go_wp2_with fail
  refine HC1.out.mono ?_
  rintro e w2 ⟨M1, av1, rfl, hl, _, _⟩
  have HL2 := Lib.hid hl
  have HX2 := Lib.hid (Held.new hl (.cells #[.int .i64 0, .int .u64 1] 34))
  have hx2 := (Held.new hl (.cells #[.int .i64 0, .int .u64 1] 34)).here
  have HC2 : Hid (Calls Try.prog 12 #[.pointer (some ⟨B, 0, none⟩), .int .i64 1, .agg #[.int .i64 0, .int .u64 1]] (w2.alloc (.cells #[.int .i64 0, .int .u64 1] 34)) fun e w' => ∃ v, e = .returned (.bool true) ∧ Lives w B (((Pa.born 3 kB cB tB hB kb).sent 0 6 M1 av1).took ⟨0, 1, 6, fun _ => false, M1⟩ 0 1 v) w' ∧ (∀ q o, Held q o B ((Pa.born 3 kB cB tB hB kb).sent 0 6 M1 av1) (w2.alloc (.cells #[.int .i64 0, .int .u64 1] 34)) → Held q o B (((Pa.born 3 kB cB tB hB kb).sent 0 6 M1 av1).took ⟨0, 1, 6, fun _ => false, M1⟩ 0 1 v) w') ∧ _) :=
    lives_take (hl.alloc (.cells #[.int .i64 0, .int .u64 1] 34)) 1 0 ⟨0, 1, 6, fun _ => false, M1⟩ (by show 1 < 3; decide) (by rfl) (by kernel_rfl)
  clear hl HC1 HL1 HOf1 hx2
  go_wp2_with fail
  refine HC2.out.mono ?_
  rintro e w3 ⟨v1, rfl, hl, hk, _⟩
  have HL3 := Lib.hid hl
  have hx3 := hk _ _ HX2.out
  have HX3 := Lib.hid hx3
  clear hl hk HC2 HX2 HL2 hx3
  go_wp2_with fail
  refine (HOf2.out _).mono ?_
  rintro e u ⟨rfl, rfl⟩
  have HC3 : Hid (Calls Try.prog 11 #[.pointer (some ⟨B, 0, none⟩), .int .i64 1, .int .u64 4] (w3.alloc (.cells #[.int .i64 2] 3)) fun e w' => ∃ M av, e = .returned (.tuple #[.agg #[.int .i64 1, .int .u64 1], .int .i64 0]) ∧ Lives w B ((((Pa.born 3 kB cB tB hB kb).sent 0 6 M1 av1).took ⟨0, 1, 6, fun _ => false, M1⟩ 0 1 v1).sent 1 4 M av) w' ∧ (∀ q o, Held q o B (((Pa.born 3 kB cB tB hB kb).sent 0 6 M1 av1).took ⟨0, 1, 6, fun _ => false, M1⟩ 0 1 v1) (w3.alloc (.cells #[.int .i64 2] 3)) → Held q o B ((((Pa.born 3 kB cB tB hB kb).sent 0 6 M1 av1).took ⟨0, 1, 6, fun _ => false, M1⟩ 0 1 v1).sent 1 4 M av) w') ∧ _) :=
    lives_send (HL3.out.alloc (.cells #[.int .i64 2] 3)) 1 4 (by show 1 < 3; decide) (by decide) (by kernel_rfl) (by show 1 < 1000; decide)
  clear HOf2
  go_wp2_with fail
  refine HC3.out.mono ?_
  rintro e w4 ⟨M2, av2, rfl, hl, hk, _⟩
  have HX4 := Lib.hid (hk _ _ (HX3.out.alloc _))
  have HY4 := Lib.hid (Held.new hl (.cells #[.int .i64 1, .int .u64 1] 34))
  have HL4 := Lib.hid (hl.alloc (.cells #[.int .i64 1, .int .u64 1] 34))
  have HX5 := Lib.hid (HX4.out.alloc (.cells #[.int .i64 1, .int .u64 1] 34))
  obtain ⟨x0, x1⟩ := two_cells HX5.out.here
  obtain ⟨y0, y1⟩ := two_cells HY4.out.here
  clear hl hk HC3 HX3 HX4 HL3
  have HC4 : Hid (∀ W, PastAt W B ((((Pa.born 3 kB cB tB hB kb).sent 0 6 M1 av1).took ⟨0, 1, 6, fun _ => false, M1⟩ 0 1 v1).sent 1 4 M2 av2) → Calls Try.prog 15 #[.pointer (some ⟨B, 0, none⟩), .int .i64 2, .agg #[.int .i64 0, .int .u64 1]] W (Told W (.bool true))) := fun W hW => by
    have h := can_any B ((((Pa.born 3 kB cB tB hB kb).sent 0 6 M1 av1).took ⟨0, 1, 6, fun _ => false, M1⟩ 0 1 v1).sent 1 4 M2 av2) 2 0 (⟨0, 1, 6, fun _ => false, M1⟩ : Ms) W hW (by show 2 < 3; decide) (by rfl)
    rw [show Pa.can ((((Pa.born 3 kB cB tB hB kb).sent 0 6 M1 av1).took ⟨0, 1, 6, fun _ => false, M1⟩ 0 1 v1).sent 1 4 M2 av2) (⟨0, 1, 6, fun _ => false, M1⟩ : Ms) 0 2 = true by kernel_rfl] at h
    exact h
  have HC5 : Hid (∀ W, PastAt W B ((((Pa.born 3 kB cB tB hB kb).sent 0 6 M1 av1).took ⟨0, 1, 6, fun _ => false, M1⟩ 0 1 v1).sent 1 4 M2 av2) → Calls Try.prog 15 #[.pointer (some ⟨B, 0, none⟩), .int .i64 2, .agg #[.int .i64 1, .int .u64 1]] W (Told W (.bool false))) := fun W hW => by
    have h := can_any B ((((Pa.born 3 kB cB tB hB kb).sent 0 6 M1 av1).took ⟨0, 1, 6, fun _ => false, M1⟩ 0 1 v1).sent 1 4 M2 av2) 2 1 (⟨1, 1, 4, (((Pa.born 3 kB cB tB hB kb).sent 0 6 M1 av1).took ⟨0, 1, 6, fun _ => false, M1⟩ 0 1 v1).knows 1, M2⟩ : Ms) W hW (by show 2 < 3; decide) (by rfl)
    rw [show Pa.can ((((Pa.born 3 kB cB tB hB kb).sent 0 6 M1 av1).took ⟨0, 1, 6, fun _ => false, M1⟩ 0 1 v1).sent 1 4 M2 av2) (⟨1, 1, 4, (((Pa.born 3 kB cB tB hB kb).sent 0 6 M1 av1).took ⟨0, 1, 6, fun _ => false, M1⟩ 0 1 v1).knows 1, M2⟩ : Ms) 1 2 = false by kernel_rfl] at h
    exact h
  have HC6 : Hid (∀ W, PastAt W B ((((Pa.born 3 kB cB tB hB kb).sent 0 6 M1 av1).took ⟨0, 1, 6, fun _ => false, M1⟩ 0 1 v1).sent 1 4 M2 av2) → Calls Try.prog 13 #[.pointer (some ⟨B, 0, none⟩), .agg #[.int .i64 0, .int .u64 1], .agg #[.int .i64 1, .int .u64 1]] W (Told W (.bool true))) := fun W hW => by
    have h := ahead_at B ((((Pa.born 3 kB cB tB hB kb).sent 0 6 M1 av1).took ⟨0, 1, 6, fun _ => false, M1⟩ 0 1 v1).sent 1 4 M2 av2) 0 1 (⟨0, 1, 6, fun _ => false, M1⟩ : Ms) (⟨1, 1, 4, (((Pa.born 3 kB cB tB hB kb).sent 0 6 M1 av1).took ⟨0, 1, 6, fun _ => false, M1⟩ 0 1 v1).knows 1, M2⟩ : Ms) W hW (by rfl) (by rfl)
    rw [show (⟨1, 1, 4, (((Pa.born 3 kB cB tB hB kb).sent 0 6 M1 av1).took ⟨0, 1, 6, fun _ => false, M1⟩ 0 1 v1).knows 1, M2⟩ : Ms).ahead 0 = true by kernel_rfl] at h
    exact h
  have HA1 := Lib.hid (HC4.out _ HL4.out.at')
  have heq := eql_id 0 1 0 1
  have hgd := guard_id
  go_wp2_with fail
  refine HA1.out.mono ?_
  rintro e w5 ⟨rfl, hm⟩
  have HL5 := Lib.hid (HL4.out.quiet hm)
  have HX6 := Lib.hid (HX5.out.quiet hm)
  have HY5 := Lib.hid (HY4.out.quiet hm)
  obtain ⟨x0, x1⟩ := two_cells HX6.out.here
  obtain ⟨y0, y1⟩ := two_cells HY5.out.here
  have HA2 := Lib.hid (HC5.out _ HL5.out.at')
  clear hm HL4 HX5 HY4 HA1 HC4
  go_wp2_with fail
  refine HA2.out.mono ?_
  rintro e w6 ⟨rfl, hm⟩
  have HL6 := Lib.hid (HL5.out.quiet hm)
  obtain ⟨x0, x1⟩ := two_cells (HX6.out.quiet hm).here
  obtain ⟨y0, y1⟩ := two_cells (HY5.out.quiet hm).here
  have HA3 := Lib.hid (HC6.out _ HL6.out.at')
  clear hm HL5 HX6 HY5 HA2 HC5
  go_wp2_with fail
  refine HA3.out.mono ?_
  rintro e w7 ⟨rfl, hm⟩
  have HE := Lib.hid (HL6.out.quiet hm).low
  clear hm HL6 HA3 HC6
  go_wp2
  go_ret
  exact ⟨rfl, HE.out⟩
end Go.Proofs.Yteicceikaecfcaa
