/-
  Both cells at once, and that they stay alike.
-/
import Derived.Test.YtpdpnhikcmpcdaaCellR
namespace Go.Proofs.Ytpdpnhikcmpcdaa
open Go.RowKit Go.Shoal

structure Both (base B vb RB : Nat) (cv rcv : Value) (w0 : World) (s r : Cl) (w : World) : Prop where
  a : Sits base B vb cv w0 s w
  b : ∃ vv, RAt w RB rcv vv r ∧ ∀ q, vv.ownBlock = some q → base ≤ q
  c : base ≤ RB
  d : ∀ q, rcv.ownBlock = some q → base ≤ q
def Any3 (B vb RB : Nat) : Nat → Prop := fun i => i = B ∨ i = vb ∨ i = RB
section
variable {base B vb RB : Nat} {cv rcv : Value} {w0 w w' : World} {s s' r r' : Cl}
theorem Both.same (h : Both base B vb RB cv rcv w0 s r w) (hm : Mod (fun _ => False) w w') : Both base B vb RB cv rcv w0 s r w' := by
  obtain ⟨h1, ⟨vv, h2, h3⟩, h4, h5⟩ := h
  exact ⟨h1.same hm, ⟨vv, h2.same hm, h3⟩, h4, h5⟩
theorem Both.ours (h : Both base B vb RB cv rcv w0 s r w) (hs : Sits base B vb cv w0 s' w') (hm : Mod (fun i => i = B ∨ i = vb) w w') : Both base B vb RB cv rcv w0 s' r w' := by
  obtain ⟨h1, ⟨vv, h2, h3⟩, h4, h5⟩ := h
  refine ⟨hs, ⟨vv, h2.mod hm ?_ ?_ ?_, h3⟩, h4, h5⟩
  · rintro (rfl | rfl)
    · exact absurd rfl (blk_ne h2.top h1.at'.top (by decide))
    · exact absurd rfl (blk_ne h2.top h1.at'.vals (by decide))
  · rintro q hq (rfl | rfl)
    · obtain ⟨cur, hc⟩ := h2.vals.block hq
      exact absurd rfl (blk_ne hc h1.at'.top (by decide))
    · obtain ⟨cur, hc⟩ := h2.vals.block hq
      exact absurd rfl (blk_ne hc h1.at'.vals (by decide))
  · rintro q hq (rfl | rfl)
    · obtain ⟨cur, hc⟩ := h2.sets.block hq
      exact absurd rfl (blk_ne hc h1.at'.top (by decide))
    · obtain ⟨cur, hc⟩ := h2.sets.block hq
      exact absurd rfl (blk_ne hc h1.at'.vals (by decide))
theorem Both.refs {v : Value} {e : Ending} (h : Both base B vb RB cv rcv w0 s r w) (hs : RSet w RB rcv r' v e w') : Both base B vb RB cv rcv w0 s r' w' := by
  obtain ⟨h1, ⟨vv, h2, h3⟩, h4, h5⟩ := h
  obtain ⟨_, vv', k1, k2, k3⟩ := hs
  have hz := h1.size
  refine ⟨⟨h1.at'.mod k3 ?_ ?_ ?_, h1.b1, h1.b2, h1.b3, h1.bel.trans (k3.below (fun i hi e => by subst e; omega) hz)⟩, ⟨vv', k1, fun q hq => by have := k2 q hq; omega⟩, h4, h5⟩
  · exact fun e => absurd e (blk_ne h1.at'.top h2.top (by decide))
  · exact fun e => absurd e (blk_ne h1.at'.vals h2.top (by decide))
  · intro q hq e
    obtain ⟨cur, hc⟩ := h1.at'.sets.block hq
    exact absurd e (blk_ne hc h2.top (by decide))
end
instance (s : Cl) (x : Vl) : Decidable (s.takes x) := inferInstanceAs (Decidable (_ ∧ _ ∧ _ ∧ _))
def Cl.putW (s : Cl) (v : Int) (x : Nat) : Cl × Vl × Int := if s.may v = 0 then (s.wrote v.toNat x, ⟨plainW x, s.me, s.tags + 1⟩, 0) else (s, ⟨0, 0, 0⟩, s.may v)
def Cl.rputW (s : Cl) (v : Int) (x : Nat) : Cl × Vl × Int := if s.rmay v = 0 then (s.rwrote v.toNat x, ⟨x, s.me, s.tags + 1⟩, 0) else (s, ⟨0, 0, 0⟩, s.rmay v)
def Cl.putA (s : Cl) (v : Int) (y : Vl) : Cl × Int := if s.may v = 0 then (if s.takes y then (s.took v.toNat y, 0) else (s, 1)) else (s, s.may v)
def Cl.rputA (s : Cl) (v : Int) (y : Vl) : Cl × Int := if s.rmay v = 0 then (if s.takes y then (s.rtook v.toNat y, 0) else (s, 1)) else (s, s.rmay v)
def Cl.getR (s : Cl) (v : Int) : Vl × Int := if s.may v = 0 then (s.vals.getD v.toNat vl0, 0) else (⟨0, 0, 0⟩, s.may v)
def Cl.rgetR (s : Cl) (v : Int) : Vl × Int := if s.rmay v = 0 then (s.vals.getD v.toNat vl0, 0) else (⟨0, 0, 0⟩, s.rmay v)
theorem may_zero {s : Cl} {v : Int} (h : s.may v = 0) : ∃ k : Nat, v = k ∧ k < s.vals.length := by
  unfold Cl.may at h
  by_cases hb : v < 0 ∨ (s.vals.length : Int) ≤ v
  · rw [if_pos hb] at h; omega
  · exact ⟨v.toNat, by omega, by omega⟩
theorem rmay_zero {s : Cl} {v : Int} (h : s.rmay v = 0) : ∃ k : Nat, v = k ∧ k < s.vals.length := by
  unfold Cl.rmay at h
  by_cases hb : v < 0 ∨ (s.vals.length : Int) ≤ v
  · rw [if_pos hb] at h; omega
  · exact ⟨v.toNat, by omega, by omega⟩
theorem getD_some {l : List Vl} {k : Nat} (h : k < l.length) : l[k]? = some (l.getD k vl0) := by
  rw [List.getD_eq_getElem?_getD, List.getElem?_eq_getElem h]; rfl
section
variable {base B vb RB : Nat} {cv rcv : Value} {w0 w : World} {s r : Cl}
theorem mod3a {w w' : World} (h : Mod (fun i => i = B ∨ i = vb) w w') : Mod (Any3 B vb RB) w w' := h.mono fun _ _ e => by rcases e with rfl | rfl; exact .inl rfl; exact .inr (.inl rfl)
theorem mod3b {w w' : World} (h : Mod (· = RB) w w') : Mod (Any3 B vb RB) w w' := h.mono fun _ _ e => .inr (.inr e)
theorem mod3n {w w' : World} (h : Mod (fun _ => False) w w') : Mod (Any3 B vb RB) w w' := h.mono fun _ _ e => e.elim
theorem both_write (h : Both base B vb RB cv rcv w0 s r w) (v : Int) (x : Nat) (ht : s.tags ≤ 1000) :
    Calls Try.prog 10 #[.pointer (some ⟨B, 0, none⟩), .int .i64 v, .float .f64 x] w fun e w' => e = .returned (.tuple #[(s.putW v x).2.1.val, .int .i64 (s.putW v x).2.2]) ∧ Both base B vb RB cv rcv w0 (s.putW v x).1 r w' ∧ Mod (Any3 B vb RB) w w' := by
  unfold Cl.putW
  by_cases hm : s.may v = 0
  · rw [if_pos hm]
    obtain ⟨k, rfl, hk⟩ := may_zero hm
    exact (sit_write h.a k x hm hk ht).mono fun _ _ ⟨h1, h2, h3⟩ => ⟨h1, h.ours h2 h3, mod3a h3⟩
  · rw [if_neg hm]
    exact (sit_write_no h.a v _ x rfl hm).mono fun _ _ ⟨h1, h2, h3⟩ => ⟨h1, h.ours h2 h3, mod3a h3⟩
theorem both_apply (h : Both base B vb RB cv rcv w0 s r w) (v : Int) (y : Vl) :
    Calls Try.prog 14 #[.pointer (some ⟨B, 0, none⟩), .int .i64 v, y.val] w fun e w' => e = .returned (.int .i64 (s.putA v y).2) ∧ Both base B vb RB cv rcv w0 (s.putA v y).1 r w' ∧ Mod (Any3 B vb RB) w w' := by
  unfold Cl.putA
  by_cases hm : s.may v = 0
  · rw [if_pos hm]
    obtain ⟨k, rfl, hk⟩ := may_zero hm
    by_cases ht : s.takes y
    · rw [if_pos ht]
      exact (sit_apply h.a k y hm hk ht).mono fun _ _ ⟨h1, h2, h3⟩ => ⟨h1, h.ours h2 h3, mod3a h3⟩
    · rw [if_neg ht]
      exact (sit_apply_bad h.a k y hm ht).mono fun _ _ ⟨h1, h2, h3⟩ => ⟨h1, h.ours h2 h3, mod3a h3⟩
  · rw [if_neg hm]
    exact (sit_apply_no h.a v _ y rfl hm).mono fun _ _ ⟨h1, h2, h3⟩ => ⟨h1, h.ours h2 h3, mod3a h3⟩
theorem both_read (h : Both base B vb RB cv rcv w0 s r w) (v : Int) :
    Calls Try.prog 11 #[.pointer (some ⟨B, 0, none⟩), .int .i64 v] w fun e w' => e = .returned (.tuple #[(s.getR v).1.val, .int .i64 (s.getR v).2]) ∧ Both base B vb RB cv rcv w0 s r w' ∧ Mod (Any3 B vb RB) w w' := by
  unfold Cl.getR
  by_cases hm : s.may v = 0
  · rw [if_pos hm]
    obtain ⟨k, rfl, hk⟩ := may_zero hm
    exact (sit_read h.a k _ hm (getD_some hk)).mono fun _ _ ⟨h1, h2, h3⟩ => ⟨h1, h.ours h2 h3, mod3a h3⟩
  · rw [if_neg hm]
    exact (sit_read_no h.a v _ rfl hm).mono fun _ _ ⟨h1, h2, h3⟩ => ⟨h1, h.ours h2 h3, mod3a h3⟩
theorem both_rwrite (h : Both base B vb RB cv rcv w0 s r w) (v : Int) (x : Nat) (ht : r.tags ≤ 1000) :
    Calls Try.prog 22 #[.pointer (some ⟨RB, 0, none⟩), .int .i64 v, .float .f64 x] w fun e w' => e = .returned (.tuple #[(r.rputW v x).2.1.val, .int .i64 (r.rputW v x).2.2]) ∧ Both base B vb RB cv rcv w0 s (r.rputW v x).1 w' ∧ Mod (Any3 B vb RB) w w' := by
  obtain ⟨vv, h2, _⟩ := h.b
  unfold Cl.rputW
  by_cases hm : r.rmay v = 0
  · rw [if_pos hm]
    obtain ⟨k, rfl, hk⟩ := rmay_zero hm
    exact (rwrite_yes RB rcv vv r k x w h2 hm hk ht).mono fun _ _ hs => ⟨hs.1, h.refs hs, by obtain ⟨_, _, _, _, k3⟩ := hs; exact mod3b k3⟩
  · rw [if_neg hm]
    exact (rwrite_no RB rcv vv r v _ x w h2 rfl hm).mono fun _ _ ⟨h1, h3⟩ => ⟨h1, h.same h3, mod3n h3⟩
theorem both_rapply (h : Both base B vb RB cv rcv w0 s r w) (v : Int) (y : Vl) :
    Calls Try.prog 23 #[.pointer (some ⟨RB, 0, none⟩), .int .i64 v, y.val] w fun e w' => e = .returned (.int .i64 (r.rputA v y).2) ∧ Both base B vb RB cv rcv w0 s (r.rputA v y).1 w' ∧ Mod (Any3 B vb RB) w w' := by
  obtain ⟨vv, h2, _⟩ := h.b
  unfold Cl.rputA
  by_cases hm : r.rmay v = 0
  · rw [if_pos hm]
    obtain ⟨k, rfl, hk⟩ := rmay_zero hm
    by_cases ht : r.takes y
    · rw [if_pos ht]
      exact (rapply_yes RB rcv vv r k y w h2 hm hk ht).mono fun _ _ hs => ⟨hs.1, h.refs hs, by obtain ⟨_, _, _, _, k3⟩ := hs; exact mod3b k3⟩
    · rw [if_neg ht]
      exact (rapply_bad RB rcv vv r k y w h2 hm ht).mono fun _ _ ⟨h1, h3⟩ => ⟨h1, h.same h3, mod3n h3⟩
  · rw [if_neg hm]
    exact (rapply_no RB rcv vv r v _ y w h2 rfl hm).mono fun _ _ ⟨h1, h3⟩ => ⟨h1, h.same h3, mod3n h3⟩
theorem both_rread (h : Both base B vb RB cv rcv w0 s r w) (v : Int) :
    Calls Try.prog 24 #[.pointer (some ⟨RB, 0, none⟩), .int .i64 v] w fun e w' => e = .returned (.tuple #[(r.rgetR v).1.val, .int .i64 (r.rgetR v).2]) ∧ Both base B vb RB cv rcv w0 s r w' ∧ Mod (Any3 B vb RB) w w' := by
  obtain ⟨vv, h2, _⟩ := h.b
  unfold Cl.rgetR
  by_cases hm : r.rmay v = 0
  · rw [if_pos hm]
    obtain ⟨k, rfl, hk⟩ := rmay_zero hm
    exact (rread_yes RB rcv vv r k _ w h2 hm (getD_some hk)).mono fun _ _ ⟨h1, h3⟩ => ⟨h1, h.same h3, mod3n h3⟩
  · rw [if_neg hm]
    exact (rread_no RB rcv vv r v _ w h2 rfl hm).mono fun _ _ ⟨h1, h3⟩ => ⟨h1, h.same h3, mod3n h3⟩
end
/-- The two stay alike. -/
structure Sim (s r : Cl) : Prop where
  c : r.c = s.c
  me : r.me = s.me
  tags : r.tags = s.tags
  good : s.c.good = true
  len : s.vals.length = s.c.vars.length
  rlen : r.vals.length = s.vals.length
  ok : ∀ (k : Nat) (x y : Vl), s.vals[k]? = some x → r.vals[k]? = some y → x.same y = true ∧ x.x < B64 ∧ y.x < B64
theorem fkey_plain (x : Nat) : fkey (plainW x) = fkey x := by
  unfold plainW
  cases h : isN x
  · rw [if_neg (by decide)]
  · rw [if_pos rfl]
    unfold fkey
    rw [if_pos h, if_pos nan_is]
theorem plain_lt {x : Nat} (h : x < B64) : plainW x < B64 := by
  unfold plainW
  split
  · decide
  · exact h
theorem same_mk {a b : Vl} (h1 : fkey a.x = fkey b.x) (h2 : a.writer = b.writer) (h3 : a.tag = b.tag) : a.same b = true := by
  unfold Vl.same sameW
  rw [h1, h2, h3]
  simp
theorem Sim.may {s r : Cl} (h : Sim s r) (v : Int) : r.rmay v = s.may v := by
  rw [may_eq h.good h.len]
  unfold Cl.rmay
  rw [h.rlen, h.c, h.me]
theorem Sim.takes {s r : Cl} (h : Sim s r) (y : Vl) : r.takes y ↔ s.takes y := by
  unfold Cl.takes
  rw [h.c, h.me]
theorem Sim.set {s r : Cl} (h : Sim s r) (k : Nat) {a b : Vl} (hab : a.same b = true) (ha : a.x < B64) (hb : b.x < B64) (n : Nat) : Sim { s with vals := s.vals.set k a, tags := n } { r with vals := r.vals.set k b, tags := n } := by
  refine ⟨h.c, h.me, rfl, h.good, (List.length_set ..).trans h.len, by show (r.vals.set k b).length = (s.vals.set k a).length; rw [List.length_set, List.length_set]; exact h.rlen, fun j x y hx hy => ?_⟩
  have hx' : (s.vals.set k a)[j]? = some x := hx
  have hy' : (r.vals.set k b)[j]? = some y := hy
  rw [List.getElem?_set] at hx' hy'
  by_cases hj : k = j
  · rw [if_pos hj] at hx' hy'
    have hlx : j < s.vals.length := by
      rcases Nat.lt_or_ge j s.vals.length with h | hge
      · exact h
      · rw [if_neg (by omega)] at hx'; cases hx'
    have hr := h.rlen
    rw [if_pos (by omega)] at hx' hy'
    cases hx'
    cases hy'
    exact ⟨hab, ha, hb⟩
  · rw [if_neg hj] at hx' hy'
    exact h.ok j x y hx' hy'
theorem zero_same : Vl.same ⟨0, 0, 0⟩ ⟨0, 0, 0⟩ = true := same_mk rfl rfl rfl
theorem Sim.putW {s r : Cl} (h : Sim s r) (v : Int) {x : Nat} (hx : x < B64) :
    Sim (s.putW v x).1 (r.rputW v x).1 ∧ (s.putW v x).2.1.same (r.rputW v x).2.1 = true ∧ (s.putW v x).2.1.x < B64 ∧ (r.rputW v x).2.1.x < B64 ∧ (r.rputW v x).2.2 = (s.putW v x).2.2 ∧ (s.putW v x).1.tags ≤ s.tags + 1 := by
  unfold Cl.putW Cl.rputW
  rw [h.may v]
  by_cases hm : s.may v = 0
  · rw [if_pos hm, if_pos hm]
    have hab : Vl.same ⟨plainW x, s.me, s.tags + 1⟩ ⟨x, r.me, r.tags + 1⟩ = true := same_mk (fkey_plain x) h.me.symm (by rw [h.tags])
    have hS := h.set v.toNat hab (plain_lt hx) hx (s.tags + 1)
    refine ⟨?_, hab, plain_lt hx, hx, rfl, Nat.le_refl _⟩
    unfold Cl.wrote Cl.rwrote
    rw [h.tags] at hS ⊢
    exact hS
  · rw [if_neg hm, if_neg hm]
    exact ⟨h, zero_same, (by decide : 0 < B64), (by decide : 0 < B64), rfl, Nat.le_succ _⟩
theorem Sim.putA {s r : Cl} (h : Sim s r) (v : Int) {y : Vl} (hy : y.x < B64) : Sim (s.putA v y).1 (r.rputA v y).1 ∧ (r.rputA v y).2 = (s.putA v y).2 ∧ (s.putA v y).1.tags = s.tags := by
  unfold Cl.putA Cl.rputA
  rw [h.may v]
  by_cases hm : s.may v = 0
  · rw [if_pos hm, if_pos hm]
    by_cases ht : s.takes y
    · rw [if_pos ht, if_pos ((h.takes y).2 ht)]
      have hab : Vl.same ⟨plainW y.x, y.writer, y.tag⟩ y = true := same_mk (fkey_plain y.x) rfl rfl
      have hS := h.set v.toNat hab (plain_lt hy) hy s.tags
      refine ⟨?_, rfl, rfl⟩
      unfold Cl.took Cl.rtook
      rw [show r = { r with tags := s.tags } by rw [← h.tags]]
      exact hS
    · rw [if_neg ht, if_neg (fun k => ht ((h.takes y).1 k))]
      exact ⟨h, rfl, rfl⟩
  · rw [if_neg hm, if_neg hm]
    exact ⟨h, rfl, rfl⟩
theorem Sim.getR {s r : Cl} (h : Sim s r) (v : Int) : (s.getR v).1.same (r.rgetR v).1 = true ∧ (s.getR v).1.x < B64 ∧ (r.rgetR v).1.x < B64 ∧ (r.rgetR v).2 = (s.getR v).2 := by
  unfold Cl.getR Cl.rgetR
  rw [h.may v]
  by_cases hm : s.may v = 0
  · rw [if_pos hm, if_pos hm]
    obtain ⟨k, rfl, hk⟩ := may_zero hm
    obtain ⟨h1, h2, h3⟩ := h.ok k _ _ (getD_some hk) (getD_some (by rw [h.rlen]; exact hk))
    exact ⟨h1, h2, h3, rfl⟩
  · rw [if_neg hm, if_neg hm]
    exact ⟨zero_same, (by decide : 0 < B64), (by decide : 0 < B64), rfl⟩
theorem Sim.new {c : Cf} (me : Int) (hg : c.good = true) : Sim (Cl.new c me) (Cl.new c me) := by
  refine ⟨rfl, rfl, rfl, hg, List.length_replicate, rfl, fun k x y hx hy => ?_⟩
  have e1 : x = vl0 := by
    have hx' : (List.replicate c.vars.length vl0)[k]? = some x := hx
    exact (List.mem_replicate.1 (List.mem_of_getElem? hx')).2
  have e2 : y = vl0 := by
    have hy' : (List.replicate c.vars.length vl0)[k]? = some y := hy
    exact (List.mem_replicate.1 (List.mem_of_getElem? hy')).2
  rw [e1, e2]
  exact ⟨same_mk rfl rfl rfl, by decide, by decide⟩
end Go.Proofs.Ytpdpnhikcmpcdaa
