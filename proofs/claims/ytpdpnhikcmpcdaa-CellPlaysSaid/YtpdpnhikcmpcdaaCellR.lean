/-
  The reference's NewCell.
-/
import Derived.Test.YtpdpnhikcmpcdaaCellQ
namespace Go.Proofs.Ytpdpnhikcmpcdaa
open Go.RowKit Go.Shoal

def RNew (w : World) (cv : Value) (s : Cl) (e : Ending) (w' : World) : Prop :=
  ∃ RB vv, e = .returned (.pointer (some ⟨RB, 0, none⟩)) ∧ RAt w' RB cv vv s ∧ w.heap.size ≤ RB ∧ (∀ q, vv.ownBlock = some q → w.heap.size ≤ q) ∧ Mod (fun _ => False) w w'
/-- While NewCell runs: k variables are there. -/
def NRel (w : World) (c : Cf) (cv : Value) (me : Int) (k : Nat) (wr : World) : Prop :=
  wr.heap[w.heap.size]? = some (.cells #[.int .i64 c.n, cv, .int .i64 c.window, .int .i64 c.queue, .int .i64 c.first, .int .i64 c.most, .int .i64 c.body, .int .i64 c.engine] 54 (0, 0)) ∧
  ∃ vv, wr.heap[w.heap.size + 1]? = some (.cells #[.int .i64 c.n, cv, .int .i64 c.window, .int .i64 c.queue, .int .i64 c.first, .int .i64 c.most, .int .i64 c.body, .int .i64 c.engine, .int .i64 me, vv, .int .u64 0] 64 (0, 0)) ∧
    RowOf wr 45 3 vv k ((List.replicate k vl0).flatMap Vl.cells) ∧ (∀ q, vv.ownBlock = some q → w.heap.size + 2 ≤ q) ∧ Mod (fun _ => False) w wr
theorem blk_new1 (w : World) (o o' : Obj) : ((w.alloc o).alloc o').heap[w.heap.size + 1]? = some o' := by
  have h := blk_new (w.alloc o) o'
  rwa [World.size_alloc] at h
theorem reps_snoc (k : Nat) : (List.replicate (k + 1) vl0).flatMap Vl.cells = (List.replicate k vl0).flatMap Vl.cells ++ [.float .f64 0, .int .i64 (-1), .int .u64 0] := by
  rw [List.replicate_succ', List.flatMap_append]
  rfl
set_option maxHeartbeats 4000000 in
theorem rnew_any (c : Cf) (cv : Value) (me : Int) (w : World) (hs : RowOf w 33 1 cv c.vars.length (setCellsV c.vars)) (hl : c.vars.length ≤ 16) (hb : ∀ t ∈ c.vars, t < 18446744073709551616) :
    Calls Try.prog 20 #[c.val cv, .int .i64 me] w (RNew w cv (Cl.new c me)) := by
  obtain ⟨i0, hii, hz0, hz1, hz2⟩ := info_parts Try.infoRVal
  obtain ⟨A, cp, rfl⟩ := hs.form
  have HS := Lib.hid hs
  have HBI := Lib.hid hb
  unfold Cf.val Cf.cells
  have H0 : Hid (NRel w c (.slice A c.vars.length cp) me 0 ((w.alloc (.cells #[.int .i64 c.n, .slice A c.vars.length cp, .int .i64 c.window, .int .i64 c.queue, .int .i64 c.first, .int .i64 c.most, .int .i64 c.body, .int .i64 c.engine] 54)).alloc (.cells #[.int .i64 c.n, .slice A c.vars.length cp, .int .i64 c.window, .int .i64 c.queue, .int .i64 c.first, .int .i64 c.most, .int .i64 c.body, .int .i64 c.engine, .int .i64 me, .slice none 0 0, .int .u64 0] 64))) :=
    ⟨blk_alloc (blk_new w _) _, .slice none 0 0, blk_new1 w _ _, RowOf.nil _ _ _, fun q hq => absurd (show (none : Option Nat) = some q from hq) (by simp), ((Mod.refl _ _).alloc _).alloc _⟩
  clear hs hb
  go_enter Try.func20, Try.ntmps20
  go_wp2
  go_loopw [6] (fun i wr => ∃ k : Nat, k ≤ c.vars.length ∧ i = .int .i64 k ∧ Hid (NRel w c (.slice A c.vars.length cp) me k wr)) (fun i _ => c.vars.length - (intOf i).toNat)
  case atStart => exact ⟨0, Nat.zero_le _, rfl, H0⟩
  case round =>
    obtain ⟨k, hk, rfl, hR⟩ := hrel
    obtain ⟨hz, vv, ht, hrow, hown, hm⟩ := hR.out
    have c1 := (blk_cell hz 1).trans rfl
    obtain ⟨A2, c2, rfl⟩ := hrow.form
    have d9 := (blk_cell ht 9).trans rfl
    have hi0 : (0 : Int) ≤ (k : Int) := by omega
    by_cases hlt : k < c.vars.length
    · have hi1 : (k : Int) < (c.vars.length : Int) := by omega
      have hltn : decide (k < c.vars.length) = true := decide_eq_true hlt
      have HZ := Lib.hid hz
      have HT := Lib.hid ht
      have HROW := Lib.hid hrow
      have HOWN := Lib.hid hown
      have HM := Lib.hid hm
      have HRA := Lib.hid (RowOf.alloc hrow (.cells #[.float .f64 0, .int .i64 (-1), .int .u64 0] 45))
      clear hz ht hrow hown hm hR
      go_wp2_with (at_builtin; refine wpList_append_row (by rfl) _ _ 62 (by rfl) i0 (.agg #[.float .f64 0, .int .i64 0, .int .u64 0]) 24 Try.underlying62 hii hz0 hz1 hz2 (by rfl) (by omega) (by rfl) HRA.out (reps_one k) _ 1 [.float .f64 0, .int .i64 (-1), .int .u64 0] (by rfl) (SrcOk.block (blk_new wr _) rfl (fun j u hu => by rw [Nat.zero_add]; simpa using hu) (by simp [Value.oneCell'])) (by unfold maxLen; omega) (by omega) ?_)
      intro v9 w9 hrow hgrow hat
      have hne1 : ∀ q, (Value.slice A2 k c2).ownBlock = some q → w.heap.size ≠ q := fun q hq => by have := HOWN.out q hq; omega
      have hne2 : ∀ q, (Value.slice A2 k c2).ownBlock = some q → w.heap.size + 1 ≠ q := fun q hq => by have := HOWN.out q hq; omega
      have hz9 := blk_grown (blk_alloc HZ.out (.cells #[.float .f64 0, .int .i64 (-1), .int .u64 0] 45)) hgrow hne1
      have ht9 := blk_grown (blk_alloc HT.out (.cells #[.float .f64 0, .int .i64 (-1), .int .u64 0] 45)) hgrow hne2
      have hm9 : Mod (fun _ => False) w w9 := (HM.out.alloc _).grown hgrow (fun q hq => by have := HOWN.out q hq; omega)
      obtain ⟨A9, c9, rfl⟩ := hrow.form
      have d9' := (blk_cell ht9 9).trans rfl
      have f9 := blk_frozen ht9 9
      have hsz := blk_lt HT.out
      have HN : Hid (NRel w c (.slice A c.vars.length cp) me (k + 1) (w9.setCell ⟨w.heap.size + 1, 9, none⟩ (.slice A9 (k + 1) c9))) := by
        refine ⟨blk_far hz9 (p := ⟨w.heap.size + 1, 9, none⟩) (by show w.heap.size ≠ w.heap.size + 1; omega) _, .slice A9 (k + 1) c9, (blk_set ht9 9 _).trans rfl, ?_, ?_, hm9.set (p := ⟨w.heap.size + 1, 9, none⟩) (fun h => by have h' : w.heap.size + 1 < w.heap.size := h; omega) _⟩
        · rw [reps_snoc]
          exact hrow.keep fun q hq => Below.heap_setCell w9 ⟨w.heap.size + 1, 9, none⟩ _ q (by obtain ⟨cur, hc⟩ := hrow.block hq; exact blk_ne hc ht9 (by decide))
        · intro q hq
          rcases hat with e | e
          · exact HOWN.out q (by rw [← e]; exact hq)
          · rw [hq] at e
            have e' : q = wr.heap.size + 1 := Option.some.inj e
            omega
      clear hrow hgrow hat hz9 ht9 hm9 hne1 hne2
      go_wp2
      go_roundw
      case rel => exact ⟨k + 1, by omega, by go_num, HN⟩
      case measure => simp [intOf]; omega
    · obtain rfl : k = c.vars.length := by omega
      have ti : decide (c.vars.length < c.vars.length) = false := decide_eq_false (by omega)
      have hle : (List.replicate c.vars.length vl0).length = c.vars.length := List.length_replicate
      have HE : Hid (RNew w (.slice A c.vars.length cp) (Cl.new c me) (.returned (.pointer (some ⟨w.heap.size + 1, 0, none⟩))) wr) := by
        refine ⟨_, _, rfl, ⟨?_, ?_, HS.out.mod hm (fun _ _ x => x), hle, by show (List.replicate c.vars.length vl0).length ≤ 16; omega, HBI.out⟩, by omega, fun q hq => by have := hown q hq; omega, hm⟩
        · exact ht
        · show RowOf wr 45 3 _ (List.replicate c.vars.length vl0).length _
          rw [hle]
          exact hrow
      clear hz ht hrow hown hm hR
      go_wp2
      go_ret
      exact HE.out
end Go.Proofs.Ytpdpnhikcmpcdaa
