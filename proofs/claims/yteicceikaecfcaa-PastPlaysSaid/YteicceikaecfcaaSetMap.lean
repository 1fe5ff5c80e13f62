/-
  Sets of small numbers, kept as maps from numbers to bools.
-/
import Derived.Test.YteicceikaecfcaaBase
import Derived.Maps.RangeWalk
namespace Go.Shoal
open Go Go.RowKit Go.Maps Go.WideShapes

theorem pigeon : ∀ (N : Nat) (l : List Nat), l.Nodup → (∀ x ∈ l, x < N) → l.length ≤ N
  | 0, l, _, h => by
    cases l with
    | nil => exact Nat.le_refl _
    | cons x r => exact absurd (h x (by simp)) (Nat.not_lt_zero _)
  | N + 1, l, hn, h => by
    have h1 : (l.erase N).length ≤ N := pigeon N (l.erase N) (hn.erase N) (fun x hx => by
      have h2 := h x (List.mem_of_mem_erase hx)
      have h3 : x ≠ N := fun e => by
        subst e
        exact (hn.mem_erase_iff.1 hx).1 rfl
      omega)
    by_cases hm : N ∈ l
    · have := List.length_erase_of_mem hm
      omega
    · rw [List.erase_of_not_mem hm] at h1
      omega
/-- What a word reads as in which no key is but numbers below 1000, each with 'true'. -/
def SetD (D : DataW Unit) (f : Nat → Bool) : Prop :=
  (∀ k : Nat, has D (.int .i64 (k : Int)) = f k) ∧ ∀ kl, has D kl = true → ∃ k : Nat, k < 1000 ∧ kl = .int .i64 (k : Int) ∧ ∀ z, D.atKey kl z = .lit (.bool true)
def SetAt (P : Program) (kT eT : TypeId) (w : World) (b : Nat) (f : Nat → Bool) : Prop :=
  ∃ D : DataW Unit, w.ownsMap P kT (plainElem P eT) b 1000 D ∧ SetD D f
section
variable {P : Program} {kT eT mT : TypeId} {w w' : World} {b : Nat} {f g : Nat → Bool}
theorem SetD.empty : SetD (.map []) (fun _ => false) := ⟨fun _ => rfl, fun kl h => by cases h⟩
theorem SetD.at {D : DataW Unit} (h : SetD D f) (k : Nat) : D.atKey (.int .i64 (k : Int)) (.lit (.bool false)) = .lit (.bool (f k)) := by
  have h1 := h.1 k
  cases hf : f k
  · rw [hf] at h1
    exact atKey_of_not_has h1 _
  · rw [hf] at h1
    obtain ⟨k', _, e, h2⟩ := h.2 _ h1
    exact h2 _
theorem SetD.lt {D : DataW Unit} (h : SetD D f) {k : Nat} (hk : f k = true) : k < 1000 := by
  have h1 := h.1 k
  rw [hk] at h1
  obtain ⟨k', h2, e, _⟩ := h.2 _ h1
  injection e with _ e
  omega
theorem lit_ne {a b : Nat} (h : a ≠ b) : (Lit.int .i64 (a : Int)) ≠ .int .i64 (b : Int) := fun e => by injection e with _ e; omega
theorem SetD.put {D : DataW Unit} (h : SetD D f) (hm : IsMap D) (k : Nat) (hk : k < 1000) : SetD (D.put (.int .i64 (k : Int)) (.lit (.bool true))) (fun x => f x || x == k) := by
  have hkl : WideAt.IsKeyLit (.int .i64 (k : Int)) := trivial
  refine ⟨fun x => ?_, fun kl hkl' => ?_⟩
  · by_cases e : x = k
    · subst e
      rw [has_put_same hm hkl]; simp
    · rw [has_put_other (lit_ne e), h.1 x]
      simp [e]
  · by_cases e : kl = .int .i64 (k : Int)
    · exact ⟨k, hk, e, fun z => by rw [e, atKey_put_same hm hkl]⟩
    · rw [has_put_other e] at hkl'
      obtain ⟨x, h1, h2, h3⟩ := h.2 _ hkl'
      exact ⟨x, h1, h2, fun z => by rw [atKey_put_other e]; exact h3 z⟩
def Keys1000 (D : DataW Unit) : Prop := ∀ kl, has D kl = true → ∃ k : Nat, k < 1000 ∧ kl = .int .i64 (k : Int)
theorem SetD.keys {D : DataW Unit} (h : SetD D f) : Keys1000 D := fun kl hk => by
  obtain ⟨k, a, c, _⟩ := h.2 kl hk
  exact ⟨k, a, c⟩
theorem Keys1000.put {D : DataW Unit} (h : Keys1000 D) (k : Nat) (hk : k < 1000) (d : DataW Unit) : Keys1000 (D.put (.int .i64 (k : Int)) d) := fun kl hkl => by
  by_cases e : kl = .int .i64 (k : Int)
  · exact ⟨k, hk, e⟩
  · rw [has_put_other e] at hkl
    exact h kl hkl
/-- No more than a thousand are there. -/
theorem ownsMap_thousand {n : Nat} {D : DataW Unit} (h : w.ownsMap P kT (plainElem P eT) b n D) (hk : P.underlying kT = some (.int .i64)) (hs : Keys1000 D) : w.ownsMap P kT (plainElem P eT) b 1000 D := by
  obtain ⟨es', hD, hp, _⟩ := h.entries (int_keyed hk)
  obtain ⟨es, clock, h1, h2, _, h4⟩ := h
  refine ⟨es, clock, h1, h2, ?_, h4⟩
  have e1 : es.size = es'.length := by
    rw [h4] at hD
    injection hD with hD
    rw [← hD, length_sorted]; simp
  rw [e1]
  have hof : ∀ p ∈ es', ∃ k : Nat, k < 1000 ∧ p.1 = .int .i64 (k : Int) := fun p hpm => by
    have : has D p.1 = true := by
      rw [hD]
      exact List.any_eq_true.2 ⟨p, hpm, WideAt.sameKey_self (by
        obtain ⟨_, hq, _, h3⟩ := World.ownsMap.entries ⟨es, clock, h1, h2, Nat.le_refl _, h4⟩ (int_keyed hk)
        rw [hD] at hq
        injection hq with hq
        exact h3 p (by rw [← hq]; exact hpm))⟩
    exact hs _ this
  have hlen := pigeon 1000 (es'.map fun p => match p.1 with | .int _ n => n.toNat | _ => 0) (by
    rw [List.Nodup, List.pairwise_map]
    refine List.Pairwise.imp_of_mem ?_ hp
    intro p q hp1 hq1 hne he
    obtain ⟨a, _, ha⟩ := hof p hp1
    obtain ⟨c, _, hc⟩ := hof q hq1
    rw [ha, hc] at he
    exact hne (by rw [ha, hc]; have : a = c := by simpa using he
                  rw [this])) (fun x hx => by
    obtain ⟨p, hpm, rfl⟩ := List.mem_map.1 hx
    obtain ⟨a, ha, hb⟩ := hof p hpm
    rw [hb]
    simpa using ha)
  simpa using hlen
theorem SetAt.made (P : Program) (kT eT : TypeId) (w : World) : SetAt P kT eT (w.alloc (.map #[] 0)) w.heap.size (fun _ => false) :=
  ⟨_, (World.ownsMap_made w P kT _).mono (Nat.zero_le _), SetD.empty⟩
theorem ownsMap_keep {k : TypeId} {R : Value → Option (DataW Unit × List MemPlace)} {n : Nat} {D : DataW Unit} (h : w.ownsMap P k R b n D) (hb : w'.heap[b]? = w.heap[b]?) : w'.ownsMap P k R b n D := by
  obtain ⟨es, clock, h1, r⟩ := h
  exact ⟨es, clock, hb.trans h1, r⟩
theorem SetAt.keep (h : SetAt P kT eT w b f) (hb : w'.heap[b]? = w.heap[b]?) : SetAt P kT eT w' b f := by
  obtain ⟨D, h1, h2⟩ := h
  exact ⟨D, ownsMap_keep h1 hb, h2⟩
theorem SetAt.lt_size (h : SetAt P kT eT w b f) : b < w.heap.size := by
  obtain ⟨D, h1, _⟩ := h
  exact h1.lt
theorem SetAt.mod {S : Nat → Prop} (h : SetAt P kT eT w b f) (hm : Mod S w w') (hs : ¬ S b) : SetAt P kT eT w' b f := h.keep (hm.block b h.lt_size hs)
theorem SetAt.lt (h : SetAt P kT eT w b f) {k : Nat} (hk : f k = true) : k < 1000 := by
  obtain ⟨D, _, h2⟩ := h
  exact h2.lt hk
theorem SetAt.isMap (h : SetAt P kT eT w b f) : ∃ es c, w.heap[b]? = some (.map es c) := by
  obtain ⟨D, ⟨es, c, h1, _⟩, _⟩ := h
  exact ⟨es, c, h1⟩
theorem plainElem_bool_inv (he : P.underlying eT = some .bool) {v : Value} {z : DataW Unit × List MemPlace} (h : plainElem P eT v = some z) : ∃ a, v = .bool a ∧ z = (.lit (.bool a), []) := by
  unfold plainElem at h
  rw [he] at h
  cases v <;> simp at h
  subst h
  exact ⟨_, rfl, rfl⟩
theorem wf_place {k : Nat} (hk : k < 9223372036854775808) : (Lit.int .i64 (k : Int)).wf = true := WalkArith.wf_i64 (by omega)
/-- s[k]. -/
theorem SetAt.lookup (h : SetAt P kT eT w b f) (hk : P.underlying kT = some (.int .i64)) (he : P.underlying eT = some .bool) (ht : P.underlying mT = some (.map kT eT)) (hz : (zeroValue eT).run P w = .ok (.bool false) w) (k : Nat) (hlt : k < 9223372036854775808) :
    (Instr.lookup mT (.map (some b)) (.int .i64 (k : Int)) false).run P w = .ok (.bool (f k)) w := by
  obtain ⟨D, h1, h2⟩ := h
  obtain ⟨v, ps, hr, hv⟩ := h1.lookup (int_keyed hk) ht hz (plainElem_bool he false) (keyOf_int_mk hk (wf_place hlt))
  obtain ⟨a, rfl, hz⟩ := plainElem_bool_inv he hv
  rw [h2.at k] at hz
  injection hz with hz
  injection hz with hz
  injection hz with hz
  rw [hr, hz]
/-- s[k] = true. -/
theorem SetAt.store (h : SetAt P kT eT w b f) (hk : P.underlying kT = some (.int .i64)) (he : P.underlying eT = some .bool) (ht : P.underlying mT = some (.map kT eT)) (k : Nat) (hlt : k < 1000) :
    ∃ w', (Instr.mapUpdate mT (.map (some b)) (.int .i64 (k : Int)) (.bool true)).run P w = .ok () w' ∧ SetAt P kT eT w' b (fun x => f x || x == k) ∧ w.grownBy w' (some b) ∧ w'.heap.size = w.heap.size := by
  obtain ⟨D, h1, h2⟩ := h
  obtain ⟨es, clock, hb, F, hs, hD⟩ := h1
  obtain ⟨es', clock', hrun, _⟩ := Maps.fit_store (R' := plainElem P eT) (int_keyed hk) ht hb F (by unfold maxLen; omega) (fun _ _ _ _ hz => hz) (keyOf_int_mk hk (wf_place (by omega : k < 9223372036854775808))) (plainElem_bool he true)
  obtain ⟨w', hrun', h3, h4⟩ := World.ownsMap.update ⟨es, clock, hb, F, hs, hD⟩ (int_keyed hk) ht (by unfold maxLen; omega) (keyOf_int_mk hk (wf_place (by omega : k < 9223372036854775808))) (plainElem_bool he true)
  have hsz : w'.heap.size = w.heap.size := by
    rw [hrun] at hrun'
    injection hrun' with _ e
    rw [← e]
    simp [ChangeMaps.setBlock]
  have hd := h2.put (k := k) ⟨_, hD⟩ hlt
  exact ⟨w', hrun', ⟨_, ownsMap_thousand h3 hk hd.keys, hd⟩, h4, hsz⟩
/-- A map from small numbers to words: h k at k, 0 where there is none. -/
def WordsAt (P : Program) (kT eT : TypeId) (w : World) (b : Nat) (h : Nat → Nat) : Prop :=
  ∃ D : DataW Unit, w.ownsMap P kT (plainElem P eT) b 1000 D ∧ Keys1000 D ∧ ∀ k : Nat, D.atKey (.int .i64 (k : Int)) (.lit (.int .u64 0)) = .lit (.int .u64 (h k : Int))
theorem WordsAt.made (P : Program) (kT eT : TypeId) (w : World) : WordsAt P kT eT (w.alloc (.map #[] 0)) w.heap.size (fun _ => 0) :=
  ⟨_, (World.ownsMap_made w P kT _).mono (Nat.zero_le _), fun kl h => (by cases h), fun _ => rfl⟩
theorem WordsAt.keep {h : Nat → Nat} (hw : WordsAt P kT eT w b h) (hb : w'.heap[b]? = w.heap[b]?) : WordsAt P kT eT w' b h := by
  obtain ⟨D, h1, h2⟩ := hw
  exact ⟨D, ownsMap_keep h1 hb, h2⟩
theorem WordsAt.lt_size {h : Nat → Nat} (hw : WordsAt P kT eT w b h) : b < w.heap.size := by
  obtain ⟨D, h1, _⟩ := hw
  exact h1.lt
theorem WordsAt.mod {S : Nat → Prop} {h : Nat → Nat} (hw : WordsAt P kT eT w b h) (hm : Mod S w w') (hs : ¬ S b) : WordsAt P kT eT w' b h := hw.keep (hm.block b hw.lt_size hs)
theorem WordsAt.isMap {h : Nat → Nat} (hw : WordsAt P kT eT w b h) : ∃ es c, w.heap[b]? = some (.map es c) := by
  obtain ⟨D, ⟨es, c, h1, _⟩, _⟩ := hw
  exact ⟨es, c, h1⟩
theorem WordsAt.lookup {h : Nat → Nat} (hw : WordsAt P kT eT w b h) (hk : P.underlying kT = some (.int .i64)) (he : P.underlying eT = some (.int .u64)) (ht : P.underlying mT = some (.map kT eT)) (hz : (zeroValue eT).run P w = .ok (.int .u64 0) w) (k : Nat) (hlt : k < 9223372036854775808) :
    (Instr.lookup mT (.map (some b)) (.int .i64 (k : Int)) false).run P w = .ok (.int .u64 (h k)) w := by
  obtain ⟨D, h1, _, h2⟩ := hw
  obtain ⟨c, hr, hv, _⟩ := h1.lookup_int (int_keyed hk) ht he hz (keyOf_int_mk hk (wf_place hlt))
  rw [h2 k] at hv
  injection hv with hv
  injection hv with _ hv
  rw [hr, hv]
theorem WordsAt.store {h : Nat → Nat} (hw : WordsAt P kT eT w b h) (hk : P.underlying kT = some (.int .i64)) (he : P.underlying eT = some (.int .u64)) (ht : P.underlying mT = some (.map kT eT)) (k : Nat) (hlt : k < 1000) (x : Nat) (hx : x < 18446744073709551616) :
    ∃ w', (Instr.mapUpdate mT (.map (some b)) (.int .i64 (k : Int)) (.int .u64 x)).run P w = .ok () w' ∧ WordsAt P kT eT w' b (fun j => if j = k then x else h j) ∧ w.grownBy w' (some b) ∧ w'.heap.size = w.heap.size := by
  have hwx : (Lit.int .u64 (x : Int)).wf = true := by simp [Lit.wf, IntKind.min, IntKind.max, IntKind.signed, IntKind.bits]; omega
  obtain ⟨D, h1, hks, h2⟩ := hw
  obtain ⟨es, clock, hb, F, hs, hD⟩ := h1
  obtain ⟨es', clock', hrun, _⟩ := Maps.fit_store (R' := plainElem P eT) (int_keyed hk) ht hb F (by unfold maxLen; omega) (fun _ _ _ _ hz => hz) (keyOf_int_mk hk (wf_place (by omega : k < 9223372036854775808))) (plainElem_int he hwx)
  obtain ⟨w', hrun', h3, h4⟩ := World.ownsMap.update ⟨es, clock, hb, F, hs, hD⟩ (int_keyed hk) ht (by unfold maxLen; omega) (keyOf_int_mk hk (wf_place (by omega : k < 9223372036854775808))) (plainElem_int he hwx)
  have hsz : w'.heap.size = w.heap.size := by
    rw [hrun] at hrun'
    injection hrun' with _ e
    rw [← e]
    simp [ChangeMaps.setBlock]
  have hd := hks.put k hlt (.lit (.int .u64 (x : Int)))
  refine ⟨w', hrun', ⟨_, ownsMap_thousand h3 hk hd, hd, fun j => ?_⟩, h4, hsz⟩
  have hkl : WideAt.IsKeyLit (.int .i64 (k : Int)) := trivial
  by_cases e : j = k
  · subst e
    rw [atKey_put_same ⟨_, hD⟩ hkl]
    simp
  · rw [atKey_put_other (lit_ne e), h2 j]
    simp [e]
/-- What a step of a range over a set leaves. -/
structure NextSet (P : Program) (kT eT : TypeId) (w w' : World) (b r n : Nat) (g : Nat → Bool) (D : DataW Unit) (left : Lit → Bool) (cnt k cnt' : Nat) : Prop where
  lt : k < 1000
  mem : g k = true
  rng : w'.ranges P kT (plainElem P eT) b r n D (fun z => left z && !z.sameKey (.int .i64 (k : Int))) cnt'
  less : cnt' < cnt
  grown : w.grownBy w' (some r)
  size : w'.heap.size = w.heap.size
theorem wpList_next_set (w : World) {ops : Array Oper} {rest : List Oper} {o : Oper} {a : Act} {Q : Exit → Act → World → Prop} (hgd : o.guard = none) (it : Operand) (hop : o.op = Op.next it false)
    (hk : P.underlying kT = some (.int .i64)) (he : P.underlying eT = some .bool) (b r n : Nat) (D : DataW Unit) (hd : SetD D g) (left : Lit → Bool) (cnt : Nat)
    (hit : a.eval it = .pointer (some ⟨r, 0, none⟩)) (h : w.ranges P kT (plainElem P eT) b r n D left cnt)
    (hDone : Hid (∀ kl, left kl = false) → wpList P ops Q rest (a.put o.dst (.tuple #[.bool false])) w)
    (hMore : ∀ (k : Nat) (w' : World) (cnt' : Nat), Hid (NextSet P kT eT w w' b r n g D left cnt k cnt') → (Instr.entry (.pointer (some ⟨r, 0, none⟩))).run P w' = .ok (.tuple #[.int .i64 (k : Int), .bool true]) w' →
      wpList P ops Q rest (a.put o.dst (.tuple #[.bool true, .int .i64 (k : Int), .bool true])) w') :
    wpList P ops Q (o :: rest) a w := by
  refine wpList_next_ranges w hgd it hop kT (int_keyed hk) (plainElem P eT) (Value.int .i64) Value.bool (fun key kl hkey => by obtain ⟨x, rfl, _⟩ := Maps.keyOf_int_inv hk hkey; exact ⟨x, rfl⟩)
    (fun v y hv => by obtain ⟨c, rfl, _⟩ := plainElem_bool_inv he hv; exact ⟨c, rfl⟩) b r n D left cnt hit h (fun _ h0 => hDone (Lib.hid h0)) (fun x c kl y w1 cnt1 hkey hlx hRv hat hrg1 hlt hg1 hs1 hen => ?_)
  obtain ⟨x', ex, rfl, hwx⟩ := Maps.keyOf_int_inv hk hkey
  cases ex
  obtain ⟨k, hk1, ek, hv⟩ := hd.2 _ (Maps.has_true_of_atKey hat)
  injection ek with _ ek
  subst ek
  obtain ⟨c', ec, ey⟩ := plainElem_bool_inv he hRv
  cases ec
  have hc : c = true := by
    have h1 := (hat .nil).symm.trans (hv .nil)
    rw [ey] at h1
    simpa using h1
  subst hc
  refine hMore k w1 cnt1 (Lib.hid ⟨hk1, ?_, hrg1, hlt, hg1, hs1⟩) hen
  have h1 := hd.1 k
  rw [Maps.has_true_of_atKey hat] at h1
  exact h1.symm
end
end Go.Shoal
