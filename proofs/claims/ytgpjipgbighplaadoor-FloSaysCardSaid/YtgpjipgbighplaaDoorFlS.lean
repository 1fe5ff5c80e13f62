/-
  flo.Parse where the text has no form.
-/
import Derived.Test.YtgpjipgbighplaaDoorFlR
import Derived.Test.YtgpjipgbighplaaDoorShelf2
namespace Go.Proofs.YtgpjipgbighplaaDoor
open Go.RowKit Go.Shoal

/-- The two errors' cells. -/
def Errs (w : World) : Prop := 2 < w.heap.size ∧ (∃ ev, w.cell? ⟨1, 0, none⟩ = some ev ∧ (ev = .nilIface ∨ ∃ te pe, ev = .iface te pe)) ∧ (∃ ev, w.cell? ⟨2, 0, none⟩ = some ev ∧ (ev = .nilIface ∨ ∃ te pe, ev = .iface te pe))
theorem Errs.mod {w w' : World} (h : Errs w) (hm : Mod (fun _ => False) w w') : Errs w' := by
  obtain ⟨h1, h2, h3⟩ := h
  exact ⟨Nat.lt_of_lt_of_le h1 hm.size, by rw [World.cell?_of_block (hm.block 1 (by omega) (fun x => x))]; exact h2, by rw [World.cell?_of_block (hm.block 2 h1 (fun x => x))]; exact h3⟩
set_option maxHeartbeats 1000000 in
set_option maxRecDepth 100000 in
theorem ipu_none (w : World) : Calls Tryd.prog 45 #[.string ⟨#[]⟩, .int .i64 16, .int .i64 64] w fun e w' => e = .returned (.tuple #[.int .u64 0, .iface 72 (.int .i64 2)]) ∧ w = w' := by
  go_enter Tryd.func45, Tryd.ntmps45
  go_wp2
  go_ret2
  exact ⟨rfl, rfl⟩
/-- What goes wrong inside. -/
theorem ipu_bad (s : List UInt8) (hl : s.length ≤ 40) (h : s = [] ∨ ∀ n, puX 0 s ≠ .ok n) (w : World) :
    ∃ n k, (k = 1 ∨ k = 2) ∧ Calls Tryd.prog 45 #[.string ⟨s.toArray⟩, .int .i64 16, .int .i64 64] w fun e w' => e = .returned (.tuple #[.int .u64 n, .iface 72 (.int .i64 k)]) ∧ Mod (fun _ => False) w w' := by
  by_cases h0 : s = []
  · subst h0
    exact ⟨0, 2, .inr rfl, (ipu_none w).mono fun _ _ ⟨x, y⟩ => ⟨x, y ▸ Mod.refl _ _⟩⟩
  · have hne : (⟨s.toArray⟩ : ByteArray).size ≠ 0 := by
      show s.length ≠ 0
      intro e
      exact h0 (List.eq_nil_of_length_eq_zero e)
    have hi := ipu_any ⟨s.toArray⟩ hne (by show s.length ≤ _; omega) w
    have hb := bytes_mod w ⟨s.toArray⟩
    have h' := h.resolve_left h0
    have e : (⟨s.toArray⟩ : ByteArray).data.toList = s := rfl
    rw [e] at hi
    cases hp : puX 0 s with
    | ok n => exact absurd hp (h' n)
    | «syntax» => rw [hp] at hi; exact ⟨0, 2, .inr rfl, hi.mono fun _ _ ⟨x, y⟩ => ⟨x, y ▸ hb⟩⟩
    | range => rw [hp] at hi; exact ⟨18446744073709551615, 1, .inl rfl, hi.mono fun _ _ ⟨x, y⟩ => ⟨x, y ▸ hb⟩⟩
theorem to_any (fn : ByteArray) (s : List UInt8) (hl : s.length ≤ 40) (k : Int) (hk : k = 1 ∨ k = 2) (w : World) (hE : Errs w) :
    Calls Tryd.prog 46 #[.string fn, .string ⟨s.toArray⟩, .int .i64 16, .int .i64 64, .iface 72 (.int .i64 k)] w fun e w' => (∃ N, e = .returned (.iface 75 (.pointer (some ⟨N, 0, none⟩)))) ∧ Mod (fun _ => False) w w' := by
  have hlim : (⟨s.toArray⟩ : ByteArray).size ≤ 281474976710656 := by show s.length ≤ _; omega
  obtain ⟨_, ⟨e1, c1, v1⟩, ⟨e2, c2, v2⟩⟩ := hE
  rcases hk with rfl | rfl
  · exact (Tryd.strconv_toError_range fn ⟨s.toArray⟩ 16 64 e2 w hlim c2 v2).mono fun _ _ ⟨N, x, _, _, y⟩ => ⟨⟨N, x⟩, Mod.of_below y⟩
  · exact (Tryd.strconv_toError_syntax fn ⟨s.toArray⟩ 16 64 e1 w hlim c1 v1).mono fun _ _ ⟨N, x, _, _, y⟩ => ⟨⟨N, x⟩, Mod.of_below y⟩
theorem pu_bad (s : List UInt8) (hl : s.length ≤ 40) (h : s = [] ∨ ∀ n, puX 0 s ≠ .ok n) (w : World) (hE : Errs w) :
    Calls Tryd.prog 39 #[.string ⟨s.toArray⟩, .int .i64 16, .int .i64 64] w fun e w' => (∃ n N, e = .returned (.tuple #[.int .u64 n, .iface 75 (.pointer (some ⟨N, 0, none⟩))])) ∧ Mod (fun _ => False) w w' := by
  obtain ⟨n, k, hk, hc⟩ := ipu_bad s hl h w
  have HC := Lib.hid hc
  have HE := Lib.hid hE
  have HT := Lib.hid (fun fn w hE => to_any fn s hl k hk w hE)
  clear hc hE h hk
  go_enter Tryd.func39, Tryd.ntmps39
  go_wp2_with fail
  refine HC.out.mono ?_
  rintro e w1 ⟨rfl, hm⟩
  have HM := Lib.hid hm
  have HE1 := Lib.hid (HE.out.mod hm)
  clear hm HC
  go_wp2_with fail
  refine (HT.out _ _ HE1.out).mono ?_
  rintro e w2 ⟨⟨N, rfl⟩, hm⟩
  have HM2 := Lib.hid (HM.out.trans hm)
  clear hm HT
  go_wp2
  go_ret2
  exact ⟨⟨n, N, rfl⟩, HM2.out⟩
set_option maxRecDepth 100000 in
set_option maxHeartbeats 2000000 in
theorem parse_err (s : List UInt8) (hl : s.length ≤ 40) (h : s = [] ∨ ∀ n, puX 0 s ≠ .ok n) (e1 : (s == [110, 97, 110]) = false) (e2 : (s == [105, 110, 102]) = false) (e3 : (s == [45, 105, 110, 102]) = false) (w : World) (hE : Errs w) :
    Calls Tryd.prog 20 #[.string ⟨s.toArray⟩] w fun e w' => e = .returned (pairF (0, false)) ∧ Mod (fun _ => False) w w' := by
  have H1 := Lib.hid (nan_any w)
  have H2 := Lib.hid (pu_bad s hl h w hE)
  clear h hE
  go_enter Tryd.func20, Tryd.ntmps20
  go_wp2_with fail
  refine H1.out.mono ?_
  rintro e w1 ⟨rfl, rfl⟩
  go_wp2_with fail
  refine H2.out.mono ?_
  rintro e w1 ⟨⟨n, N, rfl⟩, hm⟩
  have HM1 := Lib.hid hm
  clear hm H1 H2
  go_wp2
  go_ret2
  exact ⟨rfl, HM1.out⟩
end Go.Proofs.YtgpjipgbighplaaDoor
