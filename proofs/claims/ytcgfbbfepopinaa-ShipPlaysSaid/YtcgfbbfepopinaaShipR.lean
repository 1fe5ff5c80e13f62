/-
  ShipOrder: what is kept from call to call.
-/
import Derived.Test.YtcgfbbfepopinaaShipQ
namespace Go.Proofs.Ytcgfbbfepopinaa
open Go.RowKit Go.Shoal

structure ActS where
  op : Int
  n : Nat
  b : ByteArray
  reply : Bool
instance : Inhabited ActS := ⟨⟨0, 0, ByteArray.empty, false⟩⟩
def ActS.cells (a : ActS) : List Value := [.int .i64 a.op, .int .u64 a.n, .string a.b, .bool a.reply]
def ActsS (w : World) (v : Value) (l : List ActS) : Prop := ElemsIn 4 ActS.cells (fun _ => True) w v l
/-- What was pushed, and the ship. -/
structure Ord (win que k : Nat) (inl : List ByteArray) (s : Shp) : Prop where
  inv : s.Inv
  win_eq : s.win = win
  que_eq : s.que = que
  waits : s.waits = inl.drop s.last
  last_le : s.last ≤ inl.length
  len_le : inl.length ≤ k
  ok : s.p.Ok
  r0 : 0 ≤ s.p.rings
  r1 : s.p.rings ≤ k
/-- What went out: numbered on, with the bodies of what was pushed. -/
def News (inl : List ByteArray) (lst : Nat) (news : List It) : Prop := ∀ j x, news[j]? = some x → x.num = lst + j + 1 ∧ inl[lst + j]? = some x.body
theorem News.nil (inl : List ByteArray) (lst : Nat) : News inl lst [] := fun j x h => by simp at h
theorem fill_ord {s : Shp} {inl : List ByteArray} (hw : s.waits = inl.drop s.last) (hl : s.last ≤ inl.length) :
    s.filled.waits = inl.drop s.filled.last ∧ s.filled.last ≤ inl.length ∧ s.filled.last = s.last + s.news.length ∧ News inl s.last s.news := by
  have hwl : s.waits.length = inl.length - s.last := by rw [hw, List.length_drop]
  have hg : s.goes ≤ s.waits.length := by unfold Shp.goes; omega
  have hnl : s.news.length = s.goes := by unfold Shp.news; rw [numbered_length, List.length_take]; omega
  have hfl : s.filled.last = s.last + s.goes := rfl
  have hfw : s.filled.waits = s.waits.drop s.goes := rfl
  refine ⟨by rw [hfw, hfl, hw, List.drop_drop], by omega, by omega, fun j x hx => ?_⟩
  unfold Shp.news at hx
  rw [numbered_get] at hx
  cases hb : (s.waits.take s.goes)[j]? with
  | none => rw [hb] at hx; cases hx
  | some b =>
    rw [hb] at hx
    have e : (⟨s.last + j + 1, b⟩ : It) = x := by simpa using hx
    subst e
    refine ⟨rfl, ?_⟩
    have hj : j < s.goes := by
      have := (List.getElem?_eq_some_iff.1 hb).1
      rw [List.length_take] at this
      omega
    rw [List.getElem?_take_of_lt hj, hw, List.getElem?_drop] at hb
    exact hb
theorem Ord.put {win que k : Nat} {inl : List ByteArray} {s : Shp} (h : Ord win que k inl s) {x : ByteArray} (hx : x.size ≤ 50) (hr : s.waits.length < s.que) :
    Ord win que (k + 1) (inl ++ [x]) (s.put x).filled ∧ (s.put x).filled.last = s.last + (s.put x).news.length ∧ News (inl ++ [x]) s.last (s.put x).news := by
  have hll := h.last_le
  have hf := fill_ord (s := s.put x) (inl := inl ++ [x]) (by show s.waits ++ [x] = (inl ++ [x]).drop s.last; rw [h.waits, List.drop_append_of_le_length hll]) (by show s.last ≤ _; rw [List.length_append]; omega)
  have hs := (s.put x).filled_sums
  have hr1 := h.r1
  have hrg : (s.put x).filled.p.rings = s.p.rings := filled_rings
  refine ⟨⟨h.inv.put hx hr, hs.2.2.1.trans h.win_eq, hs.2.2.2.1.trans h.que_eq, hf.1, hf.2.1, by rw [List.length_append]; have := h.len_le; simp; omega, filled_ok h.ok, by rw [hrg]; exact h.r0, by rw [hrg]; omega⟩, hf.2.2.1, hf.2.2.2⟩
theorem Ord.ack {win que k : Nat} {inl : List ByteArray} {s : Shp} (h : Ord win que k inl s) (n : Nat) :
    Ord win que (k + 1) inl (s.acked n).filled ∧ (s.acked n).filled.last = s.last + (s.acked n).news.length ∧ News inl s.last (s.acked n).news := by
  have hf := fill_ord (s := s.acked n) (inl := inl) h.waits h.last_le
  have hs := (s.acked n).filled_sums
  have hr1 := h.r1
  have hrg : (s.acked n).filled.p.rings = s.p.rings := filled_rings
  refine ⟨⟨h.inv.ack n, hs.2.2.1.trans h.win_eq, hs.2.2.2.1.trans h.que_eq, hf.1, hf.2.1, by have := h.len_le; omega, filled_ok (Pc.stop_ok h.ok), by rw [hrg]; exact h.r0, by rw [hrg]; omega⟩, hf.2.2.1, hf.2.2.2⟩
theorem Ord.same {win que k : Nat} {inl : List ByteArray} {s : Shp} (h : Ord win que k inl s) : Ord win que (k + 1) inl s := ⟨h.inv, h.win_eq, h.que_eq, h.waits, h.last_le, by have := h.len_le; omega, h.ok, h.r0, by have := h.r1; omega⟩
theorem Ord.tick {win que k : Nat} {inl : List ByteArray} {s : Shp} (h : Ord win que k inl s) : Ord win que (k + 1) inl { s with p := s.p.tick.1 } := by
  have htr := @tick_rings s.p
  have h0 := h.r0
  have h1 := h.r1
  refine ⟨⟨h.inv.out_le, h.inv.full, h.inv.nums, fun ho => ?_, h.inv.obody, h.inv.wbody, h.inv.wait_le⟩, h.win_eq, h.que_eq, h.waits, h.last_le, by have := h.len_le; omega, Pc.tick_ok h.ok, ?_, ?_⟩
  · have hi := h.inv.idle ho
    show s.p.tick.1.left = 0
    unfold Pc.tick
    rw [if_pos hi]
    exact hi
  · show 0 ≤ s.p.tick.1.rings
    omega
  · show s.p.tick.1.rings ≤ _
    omega
theorem Ord.fit {win que k : Nat} {inl : List ByteArray} {s : Shp} (h : Ord win que k inl s) (h1 : win ≤ 16) (h2 : que ≤ 32) (h3 : k ≤ 200) : s.Fit :=
  h.inv.fit (by have := h.win_eq; omega) (by have := h.que_eq; omega) (by have := h.last_le; have := h.len_le; omega)
theorem Ord.lens {win que k : Nat} {inl : List ByteArray} {s : Shp} (h : Ord win que k inl s) : s.out.length ≤ win ∧ s.waits.length ≤ que ∧ s.last + s.waits.length = inl.length := by
  have hw : s.waits.length = inl.length - s.last := by rw [h.waits, List.length_drop]
  have := h.last_le
  have := h.inv.out_le
  have := h.inv.wait_le
  have := h.win_eq
  have := h.que_eq
  omega
theorem Sails.nil {base B pb : Nat} {w0 w : World} {s : Shp} {rs : List (Value × List It)} (h : Sails base B pb w0 s rs w) : Sails base B pb w0 s ((.slice Option.none 0 0, []) :: rs) w := by
  obtain ⟨ov, wv, a1, a2, a3, a4⟩ := h
  refine ⟨ov, wv, a1, a2, a3, fun r hr => ?_⟩
  rcases List.mem_cons.1 hr with rfl | hr
  · exact ⟨⟨[], rfl, RowOf.nil _ _ _, fun p hp => by cases hp⟩, fun q hq => by cases hq⟩
  · exact a4 r hr
/-- What lies in memory. -/
def InRow (base : Nat) (w : World) (iv : Value) (inl : List ByteArray) : Prop := RowOf w 9 1 iv inl.length (inl.map Value.string) ∧ ∀ q, iv.ownBlock = some q → base ≤ q
theorem InRow.keepT {base : Nat} {w w' : World} {iv : Value} {inl : List ByteArray} {ts : List Nat} (h : InRow base w iv inl) (hk : KeepT ts w w') (ht : 9 ∈ ts) : InRow base w' iv inl := ⟨RowOf.keepT h.1 hk ht, h.2⟩
theorem in_one (inl : List ByteArray) : ∀ u ∈ inl.map Value.string, u.oneCell' = true := by
  intro u hu
  obtain ⟨x, _, rfl⟩ := List.mem_map.1 hu
  rfl
theorem InRow.cell {base : Nat} {w : World} {A : Option Addr} {c : Nat} {inl : List ByteArray} (h : InRow base w (.slice A inl.length c) inl) {j : Nat} {x : ByteArray} (hx : inl[j]? = some x) : ∃ b o, A = some ⟨b, o, none⟩ ∧ w.cell? ⟨b, o + j, none⟩ = some (.string x) := by
  have hj := (List.getElem?_eq_some_iff.1 hx).1
  obtain ⟨b, o, cap, cur, hv, _⟩ := RowOf.at h.1 (by omega)
  cases hv
  refine ⟨b, o, rfl, ?_⟩
  rw [RowOf.cell h.1 j (by omega), List.getElem?_map, hx]
  rfl
end Go.Proofs.Ytcgfbbfepopinaa
