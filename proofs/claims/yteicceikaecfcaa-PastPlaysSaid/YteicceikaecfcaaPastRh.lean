/-
  Package past: Past and the reference side by side.
-/
import Derived.Test.YteicceikaecfcaaPastRg
namespace Go.Proofs.Yteicceikaecfcaa
open Go.RowKit Go.Shoal Go.Maps

/-- Past and the reference, of one history. -/
structure Duo (w0 : World) (B R : Nat) (s : Pa) (r : Re) (w : World) : Prop where
  lv : Lives w0 B s w
  rf : RAt w R r s
  ab : ∀ b, RMut R r b → w0.heap.size ≤ b
section
variable {w0 w w' : World} {B R : Nat} {s s' : Pa} {r : Re}
theorem Duo.quiet (h : Duo w0 B R s r w) (hm : Mod (fun _ => False) w w') : Duo w0 B R s r w' := ⟨h.lv.quiet hm, h.rf.same hm, h.ab⟩
/-- The reference's writes leave Past and all else alone. -/
theorem mut_far (hl : Lives w0 B s' w) (hr : RAt w R r s) : ∀ b, RMut R r b → ¬ Foot B s' b := fun b hb => by
  obtain ⟨cs, t, hc, ht, _, _⟩ := hr.mut hb
  exact foot_far hl.at' hc ht
theorem mut_keep (hr : RAt w R r s) (hm : Mod (RMut R r) w w') {q t : Nat} {cs : Array Value} (hq : w.heap[q]? = some (.cells cs t (0, 0))) (ht : ¬ RefT t) : w'.heap[q]? = some (.cells cs t (0, 0)) :=
  hm.blk hq (fun hb => by
    obtain ⟨cs', t', hc, ht', _, _⟩ := hr.mut hb
    rw [hq] at hc
    have e := Option.some.inj hc
    injection e with _ e _
    exact ht (e ▸ ht'))
theorem mut_below (h : ∀ b, RMut R r b → w0.heap.size ≤ b) (hl : Below w0.heap.size w0 w) (hm : Mod (RMut R r) w w') : Below w0.heap.size w0 w' := Mod.then_below hl hm h hl.size
/-- Send on Past's side. -/
theorem duo_psend (h : Duo w0 B R s r w) (f t : Nat) (hf : f < s.n) (ht : t < 18446744073709551616) (hg : s.goodTo f t = true) (hl : s.all.length < 1000) :
    Calls Try.prog 11 #[.pointer (some ⟨B, 0, none⟩), .int .i64 f, .int .u64 t] w fun e w' => ∃ M av, e = .returned (.tuple #[.agg #[.int .i64 (f : Int), .int .u64 ((cnt s.all f + 1 : Nat) : Int)], .int .i64 0]) ∧ Lives w0 B (s.sent f t M av) w' ∧ RAt w' R r s ∧ (∀ q o, Held q o B s w → Held q o B (s.sent f t M av) w') :=
  (send_yes B s f t w h.lv.at' hf ht hg hl).mono fun _ _ ⟨M, av, he, h1, h2, h3⟩ => ⟨M, av, he, h.lv.wrote h1 h2 h3, h.rf.past h.lv.at' h2, fun _ _ hq => hq.wrote h2 h3⟩
/-- Send on the reference's side. -/
theorem duo_rsend {f t M : Nat} {av : Value} (hl : Lives w0 B (s.sent f t M av) w) (hr : RAt w R r s) (ab : ∀ b, RMut R r b → w0.heap.size ≤ b) (hf : f < s.n) (hn : s.n ≤ 16) (hlen : s.all.length < 1000) :
    Calls Try.prog 23 #[.pointer (some ⟨R, 0, none⟩), .int .i64 f, .int .u64 t] w fun e w' => e = .returned (.int .i64 (s.all.length : Int)) ∧ (∃ r', Duo w0 B R (s.sent f t M av) r' w') ∧ ∀ q cs ty, Held q (.cells cs ty (0, 0)) B (s.sent f t M av) w → ¬ RefT ty → Held q (.cells cs ty (0, 0)) B (s.sent f t M av) w' :=
  (rsend_any R r s f t M av w hr hf hn hlen).mono fun _ _ ⟨he, r', h1, h2, h3⟩ => ⟨he, ⟨r', hl.other h2 (mut_far hl hr) ab, h1, fun b hb => (h3 b hb).elim (ab b) (fun e => Nat.le_trans hl.low.size e)⟩, fun _ _ _ hq ht => ⟨mut_keep hr h2 hq.here ht, hq.away⟩⟩
/-- Take on Past's side. -/
theorem duo_ptake (h : Duo w0 B R s r w) (p k : Nat) (m : Ms) (hp : p < s.n) (hk : s.all[k]? = some m) (ho : s.open m k p = true) :
    Calls Try.prog 12 #[.pointer (some ⟨B, 0, none⟩), .int .i64 p, .agg #[.int .i64 (m.frm : Int), .int .u64 (m.num : Int)]] w fun e w' => ∃ v, e = .returned (.bool true) ∧ Lives w0 B (s.took m k p v) w' ∧ RAt w' R r s ∧ (∀ q o, Held q o B s w → Held q o B (s.took m k p v) w') :=
  (take_yes B s p k m w h.lv.at' hp hk ho).mono fun _ _ ⟨v, he, h1, h2, h3⟩ => ⟨v, he, h.lv.wrote h1 h2 h3, h.rf.past h.lv.at' h2, fun _ _ hq => hq.wrote h2 h3⟩
theorem duo_rtake {m : Ms} {k p : Nat} {v : Value} (hl : Lives w0 B (s.took m k p v) w) (hr : RAt w R r s) (ab : ∀ b, RMut R r b → w0.heap.size ≤ b) (ok : s.Ok) (hp : p < s.n) (hk : s.all[k]? = some m) (hg : (s.got p).length ≤ 1000) (ho : s.open m k p = true) (hlen : s.all.length < 1000) :
    Calls Try.prog 25 #[.pointer (some ⟨R, 0, none⟩), .int .i64 p, .int .i64 k] w fun e w' => e = .returned (.bool true) ∧ ∃ r', Duo w0 B R (s.took m k p v) r' w' :=
  (rtake_yes R r s p k m v w hr ok hp hk hg ho hlen).mono fun _ _ ⟨he, r', h1, h2, h3⟩ => ⟨he, r', hl.other h2 (mut_far hl hr) ab, h1, fun b hb => ab b (h3 b hb)⟩
end
end Go.Proofs.Yteicceikaecfcaa
