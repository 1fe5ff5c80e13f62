/-
  Package past: acts, whatever they are; what came in.
-/
import Derived.Test.YteicceikaecfcaaPastL
import Derived.Test.YteicceikaecfcaaElems
namespace Go.Proofs.Yteicceikaecfcaa
open Go.RowKit Go.Shoal Go.Maps

/-- An act of the laws. -/
structure ActP where
  op : Int
  p : Int
  k : Int
  t : Nat
instance : Inhabited ActP := ⟨⟨0, 0, 0, 0⟩⟩
def ActP.cells (a : ActP) : List Value := [.int .i64 a.op, .int .i64 a.p, .int .i64 a.k, .int .u64 (a.t : Int)]
def ActP.fit (a : ActP) : Prop := a.t < 18446744073709551616
def ActsP (w : World) (v : Value) (l : List ActP) : Prop := ElemsIn 4 ActP.cells ActP.fit w v l
theorem actp_of {H : Type} {enc : TypeId × Value → H} {W : World} {base : Nat} {spare : Nat → Bool} {held : Bool} (n : Nat) (cs : List Value) (y : DataW H × List MemPlace) (hl : cs.length = 4)
    (h : DataW.trod enc Try.prog W base spare held n 32 cs = some y) : ∃ a : ActP, cs = a.cells ∧ a.fit := by
  obtain ⟨c0, c1, c2, c3, rfl⟩ : ∃ c0 c1 c2 c3, cs = [c0, c1, c2, c3] := by
    match cs, hl with
    | [a, b, c, d], _ => exact ⟨a, b, c, d, rfl⟩
  obtain ⟨k0, y0, h0⟩ := field_of_trod Try.underlying32 h 0 _ rfl rfl (by kernel_rfl) (by simp)
  obtain ⟨k1, y1, h1⟩ := field_of_trod Try.underlying32 h 1 _ rfl rfl (by kernel_rfl) (by simp)
  obtain ⟨k2, y2, h2⟩ := field_of_trod Try.underlying32 h 2 _ rfl rfl (by kernel_rfl) (by simp)
  obtain ⟨k3, y3, h3⟩ := field_of_trod Try.underlying32 h 3 _ rfl rfl (by kernel_rfl) (by simp)
  obtain ⟨a0, e0, _⟩ := int_of_trod Try.underlying3 h0
  obtain ⟨a1, e1, _⟩ := int_of_trod Try.underlying3 h1
  obtain ⟨a2, e2, _⟩ := int_of_trod Try.underlying3 h2
  obtain ⟨a3, e3, w3⟩ := int_of_trod Try.underlying30 h3
  have hw := wf_u64 w3
  refine ⟨⟨a0, a1, a2, a3.toNat⟩, ?_, by show a3.toNat < _; omega⟩
  have f0 : c0 = _ := e0
  have f1 : c1 = _ := e1
  have f2 : c2 = _ := e2
  have f3 : c3 = _ := e3
  rw [f0, f1, f2, f3]
  have : (a3.toNat : Int) = a3 := by omega
  simp [ActP.cells, this]
/-- A Send, whatever it is. -/
theorem send_some {w0 w : World} {B : Nat} {s : Pa} (h : Lives w0 B s w) (p : Int) (t : Nat) (ht : t < 18446744073709551616) (hl : s.all.length < 1000) :
    Calls Try.prog 11 #[.pointer (some ⟨B, 0, none⟩), .int .i64 p, .int .u64 t] w fun e w' => ∃ v s', e = .returned v ∧ Lives w0 B s' w' ∧ s'.n = s.n ∧ s'.all.length ≤ s.all.length + 1 ∧ w.heap.size ≤ w'.heap.size := by
  cases hp : s.there p
  · exact (send_arg B s p t w h.at' hp).mono fun _ _ ⟨he, hm⟩ => ⟨_, s, he, h.quiet hm, rfl, by omega, hm.size⟩
  · obtain ⟨hp0, hpn⟩ : 0 ≤ p ∧ p < s.n := by unfold Pa.there at hp; simpa using hp
    obtain ⟨f, rfl⟩ : ∃ f : Nat, p = f := ⟨p.toNat, by omega⟩
    have hf : f < s.n := by omega
    cases hg : s.goodTo f t
    · exact (send_bad B s f t w h.at' hf ht hg).mono fun _ _ ⟨he, hm⟩ => ⟨_, s, he, h.quiet hm, rfl, by omega, hm.size⟩
    · exact (lives_send h f t hf ht hg hl).mono fun _ _ ⟨M, av, he, hL, _, hz⟩ => ⟨_, _, he, hL, rfl, by simp [Pa.sent], hz⟩
theorem get_name {s : Pa} {k : Nat} (hk : k < s.all.length) : ∃ m, s.all[k]? = some m ∧ s.allNames[k]? = some (m.frm, m.num) := by
  refine ⟨s.all[k], List.getElem?_eq_getElem hk, ?_⟩
  unfold Pa.allNames
  rw [List.getElem?_map, List.getElem?_eq_getElem hk]; rfl
/-- A Take of a message that was sent, whoever takes it. -/
theorem take_some {w0 w : World} {B : Nat} {s : Pa} (h : Lives w0 B s w) (p : Int) (k : Nat) (m : Ms) (hk : s.all[k]? = some m) :
    Calls Try.prog 12 #[.pointer (some ⟨B, 0, none⟩), .int .i64 p, .agg #[.int .i64 (m.frm : Int), .int .u64 (m.num : Int)]] w fun e w' => ∃ v s', e = .returned v ∧ Lives w0 B s' w' ∧ s'.n = s.n ∧ s'.all = s.all ∧ w.heap.size ≤ w'.heap.size := by
  cases hp : s.there p
  · exact (take_no B s p _ _ w h.at' (.inl hp)).mono fun _ _ ⟨he, hm⟩ => ⟨_, s, he, h.quiet hm, rfl, rfl, hm.size⟩
  · obtain ⟨hp0, hpn⟩ : 0 ≤ p ∧ p < s.n := by unfold Pa.there at hp; simpa using hp
    obtain ⟨q, rfl⟩ : ∃ q : Nat, p = q := ⟨p.toNat, by omega⟩
    have hq : q < s.n := by omega
    cases ho : s.open m k q
    · exact (take_not B s q k m w h.at' hq hk ho).mono fun _ _ ⟨he, hm⟩ => ⟨_, s, he, h.quiet hm, rfl, rfl, hm.size⟩
    · exact (lives_take h q k m hq hk ho).mono fun _ _ ⟨v, he, hL, _, hz⟩ => ⟨_, _, he, hL, rfl, rfl, hz⟩
/-- A name's cells in a slice of names. -/
theorem Names.elem {w : World} {v : Value} {l : List (Nat × Nat)} (h : Names w v l) {k : Nat} {x : Nat × Nat} (hk : l[k]? = some x) :
    ∃ b o cap, v = .slice (some ⟨b, o, none⟩) l.length cap ∧ b < w.heap.size ∧ w.cell? ⟨b, o + k * 2, none⟩ = some (.int .i64 (x.1 : Int)) ∧ w.cell? ⟨b, o + k * 2 + 1, none⟩ = some (.int .u64 (x.2 : Int)) := by
  obtain ⟨b, o, cap, he, hb, hc⟩ := RowOf.elem nameCells_len h hk
  exact ⟨b, o, cap, he, hb, hc 0 _ rfl, hc 1 _ rfl⟩
theorem Names.quiet {w w' : World} {v : Value} {l : List (Nat × Nat)} (h : Names w v l) (hm : Mod (fun _ => False) w w') : Names w' v l := RowOf.mod h hm (fun _ _ x => x)
/-- Ahead, by places. -/
theorem ahead_of {B : Nat} {s : Pa} {w : World} (h : PastAt w B s) (i k : Nat) (m m' : Ms) (hi : s.all[i]? = some m) (hk : s.all[k]? = some m') :
    Calls Try.prog 13 #[.pointer (some ⟨B, 0, none⟩), .agg #[.int .i64 (m.frm : Int), .int .u64 (m.num : Int)], .agg #[.int .i64 (m'.frm : Int), .int .u64 (m'.num : Int)]] w (Told w (.bool (m'.ahead i))) := ahead_at B s i k m m' w h hi hk
end Go.Proofs.Yteicceikaecfcaa
