/-
  shoallaw12: items.
-/
import Derived.Test.YtcgfbbfepopinaaShipI
import Derived.Laws.BytesString
import Derived.Laws.IdiomStrings
namespace Go.Proofs.Ytcgfbbfepopinaa
open Go.RowKit Go.Shoal

/-- Bytes as a string. -/
theorem conv_bytes {w : World} {v : Value} {s : ByteArray} (h : RowOf w 5 1 v s.size (byteCells s)) : (convert 31 9 v).run Try.prog w = .ok (.string s) w := by
  rcases h.2 with ⟨rfl, h0⟩ | ⟨b, o, cap, cur, rfl, hh, hc, hm, hs, hx⟩
  · rw [run_convert_bytes_string w 31 9 5 none 0 0 Try.underlying31 Try.underlying5 Try.underlying9]
    have hse : s = ByteArray.empty := by
      cases s with
      | mk d => 
        have : d = #[] := Array.eq_empty_of_size_eq_zero h0
        rw [this]
        rfl
    rw [hse]
    rfl
  · rw [run_convert_bytes_string w 31 9 5 _ s.size cap Try.underlying31 Try.underlying5 Try.underlying9]
    have hb : byteCells s = (s.data.toList.map fun b => (b.toNat : Int)).map (Value.int .u8) := by
      unfold byteCells
      rw [List.map_map]
      rfl
    have hlen : (byteCells s).length = s.size := byteCells_length s
    have hl := run_loadCells_list (P := Try.prog) (w := w) ⟨b, o, none⟩ (byteCells s) (fun j u hu => by
      rw [Addr.add_lit, blk_cell hh, hx j (by rw [Nat.mul_one, ← hlen]; exact (List.getElem?_eq_some_iff.1 hu).1)]
      exact hu)
    rw [hlen, hb] at hl
    rw [run_bytesToString w ⟨b, o, none⟩ s.size cap _ hl, foldl_push_byteCells]
    simp
def rflat (l : List It) : List Value := l.flatMap fun x => [.int .u64 x.num, .string x.body]
theorem rflat_get (l : List It) (i : Nat) (x : It) (h : l[i]? = some x) : (rflat l)[i * 2]? = some (.int .u64 x.num) ∧ (rflat l)[i * 2 + 1]? = some (.string x.body) := by
  induction l generalizing i with
  | nil => simp at h
  | cons q l ih =>
    cases i with
    | zero =>
      have : q = x := by simpa using h
      subst this
      exact ⟨rfl, rfl⟩
    | succ i =>
      have e : rflat (q :: l) = Value.int .u64 q.num :: Value.string q.body :: rflat l := rfl
      rw [e]
      have := ih i (by simpa using h)
      refine ⟨?_, ?_⟩
      · rw [show (i + 1) * 2 = i * 2 + 1 + 1 by omega, List.getElem?_cons_succ, List.getElem?_cons_succ]; exact this.1
      · rw [show (i + 1) * 2 + 1 = i * 2 + 1 + 1 + 1 by omega, List.getElem?_cons_succ, List.getElem?_cons_succ]; exact this.2
theorem rflat_length (l : List It) : (rflat l).length = l.length * 2 := by
  induction l with
  | nil => rfl
  | cons p l ih =>
    unfold rflat at *
    rw [List.flatMap_cons, List.length_append, ih]
    simp
    omega
/-- The reference's items. -/
def RItemsAt (w : World) (v : Value) (l : List It) : Prop := RowOf w 50 2 v l.length (rflat l)
def ItemsEnd (w : World) (e : Ending) (w' : World) : Prop := e = .returned (.bool true) ∧ ∃ n, w' = w.drewN n
set_option maxHeartbeats 2000000 in
theorem items_same (N : Nat → Prop) (w : World) (va vb : Value) (l : List It) (ha : ItemsAt N w va l) (hb : RItemsAt w vb l) (hl : l.length ≤ 1000) : Calls Try.prog 17 #[va, vb] w (ItemsEnd w) := by
  obtain ⟨l', h1, h2, h3⟩ := ha
  obtain ⟨A1, c1, rfl⟩ := h2.form
  obtain ⟨A2, c2, rfl⟩ := RowOf.form hb
  have H1 := Lib.hid h1
  have H2 := Lib.hid h2
  have H3 := Lib.hid h3
  have H4 := Lib.hid hb
  have t0 : ((l.length : Int) != (l.length : Int)) = false := by simp
  clear h1 h2 h3 hb
  go_enter Try.func17, Try.ntmps17
  go_wp2
  go_loopw [5] (fun i wr => ∃ k : Nat, k ≤ l.length ∧ i = .int .i64 k ∧ Hid (∃ m, wr = w.drewN m)) (fun i _ => l.length - (intOf i).toNat)
  case atStart => exact ⟨0, Nat.zero_le _, rfl, ⟨0, rfl⟩⟩
  case round =>
    obtain ⟨k, hk, rfl, hW⟩ := hrel
    by_cases hlt : k < l.length
    · obtain ⟨x, hx⟩ : ∃ x, l[k]? = some x := ⟨_, List.getElem?_eq_getElem hlt⟩
      obtain ⟨p, hp, hpx⟩ : ∃ p, l'[k]? = some p ∧ p.1 = x := by
        have hx' := hx
        rw [← H1.out, List.getElem?_map] at hx'
        cases hq : l'[k]? with
        | none => rw [hq] at hx'; cases hx'
        | some p => rw [hq] at hx'; exact ⟨p, rfl, by simpa using hx'⟩
      have hbody := H3.out p (List.mem_of_getElem? hp)
      rw [hpx] at hbody
      obtain ⟨b, o, cap, cur, he, hcur, _, hcells⟩ := H2.out.at (by omega)
      obtain ⟨b2, o2, cap2, cur2, he2, hcur2, _, hcells2⟩ := RowOf.at H4.out (by omega)
      obtain ⟨g0, g1⟩ := flat_get l' k p hp
      obtain ⟨r0, r1⟩ := rflat_get l k x hx
      rw [hpx] at g0
      obtain ⟨B2, cb, hp2⟩ := hbody.1.form
      rw [hp2] at hbody g1
      obtain ⟨m, hm⟩ := hW.out
      have k0 : wr.cell? ⟨b, o + k * 2, none⟩ = some (.int .u64 x.num) := by rw [hm]; exact (blk_cell hcur _).trans ((hcells _ (by omega)).trans g0)
      have k1 : wr.cell? ⟨b, o + k * 2 + 1, none⟩ = some (.slice B2 x.body.size cb) := by rw [hm]; exact (blk_cell hcur _).trans ((by rw [Nat.add_assoc]; exact hcells _ (by omega) : cur[o + k * 2 + 1]? = _).trans g1)
      have k2 : wr.cell? ⟨b2, o2 + k * 2, none⟩ = some (.int .u64 x.num) := by rw [hm]; exact (blk_cell hcur2 _).trans ((hcells2 _ (by omega)).trans r0)
      have k3 : wr.cell? ⟨b2, o2 + k * 2 + 1, none⟩ = some (.string x.body) := by rw [hm]; exact (blk_cell hcur2 _).trans ((by rw [Nat.add_assoc]; exact hcells2 _ (by omega) : cur2[o2 + k * 2 + 1]? = _).trans r1)
      have hcv : ∀ q, (convert 31 9 (.slice B2 x.body.size cb)).run Try.prog (wr.drewN q) = .ok (.string x.body) (wr.drewN q) := fun q => conv_bytes (w := wr.drewN q) (by
        have e : (wr.drewN q).heap = w.heap := by rw [hm]; rfl
        exact hbody.1.keep (fun b _ => by rw [e]))
      have hi : (k : Int) < l.length := by omega
      have hi0 : (0 : Int) ≤ (k : Int) := by omega
      have HW : Hid (∀ q, ∃ m, wr.drewN q = w.drewN m) := fun q => ⟨m + q, by rw [hm, World.drewN_drewN]⟩
      cases he
      cases he2
      clear hx hp hpx hbody hcur hcells hcur2 hcells2 g0 g1 r0 r1 hp2 hm
      go_wp2_with fail
      go_quiet (fail)
      go_wp2
      go_roundw
      case rel => exact ⟨k + 1, by omega, by go_num, HW.out _⟩
      case measure => simp [intOf]; omega
    · obtain rfl : k = l.length := by omega
      have ti : decide ((l.length : Int) < (l.length : Int)) = false := decide_eq_false (by omega)
      go_wp2
      go_ret
      exact ⟨rfl, hW.out⟩
end Go.Proofs.Ytcgfbbfepopinaa
