/-
  Package ship: the walk of slices.DeleteFunc.
-/
import Derived.Test.YtcgfbbfepopinaaShipG
namespace Go.Proofs.Ytcgfbbfepopinaa
open Go.RowKit Go.Shoal

theorem keptOf_lt (n : Nat) (p : It × Value) (r : List (It × Value)) (hp : p.1.num ≤ n) (k : Nat) (hk : 1 ≤ k) : (keptOf n ((p :: r).take k)).length < k := by
  obtain ⟨k, rfl⟩ : ∃ q, k = q + 1 := ⟨k - 1, by omega⟩
  unfold keptOf
  rw [List.take_succ_cons, List.filter_cons, if_neg (by simp; omega)]
  have := List.length_filter_le (fun p : It × Value => decide (n < p.1.num)) (r.take k)
  have := List.length_take_le k r
  omega
set_option maxRecDepth 100000 in
set_option maxHeartbeats 2000000 in
theorem delete_any (b o cap z n : Nat) (p0 : It × Value) (r : List (It × Value)) (w : World) (hrow : RowOf w 45 2 (.slice (some ⟨b, o, none⟩) (p0 :: r).length cap) (p0 :: r).length (flat (p0 :: r)))
    (hb : ∀ p ∈ p0 :: r, ∃ A m c, p.2 = .slice A m c) (hz : w.heap[z]? = some (.cells #[.int .u64 n] 34 (0, 0))) (hn : p0.1.num ≤ n) (hl : (p0 :: r).length ≤ 1000) :
    Calls Try.prog 28 #[.slice (some ⟨b, o, none⟩) (p0 :: r).length cap, ackF z] w (DelEnd w b o cap n (p0 :: r)) := by
  have hlt := keptOf_lt n p0 r hn
  have hget := flat_get (p0 :: r)
  have hll : 0 < (p0 :: r).length := by simp
  have hb0 := hb p0 List.mem_cons_self
  have hg0 := hget 0 p0 rfl
  have hk1 : (keptOf n ((p0 :: r).take 1)).length = 0 := by have := hlt 1 (Nat.le_refl _); omega
  rcases hrow.2 with ⟨he, _⟩ | ⟨b', o', cap', cur, he, hcur, hcap, hcm, hsz, hcells⟩
  · cases he
  cases he
  obtain ⟨A0, m0, c0, hp0⟩ := hb0
  have e0 : w.cell? ⟨b, o, none⟩ = some (.int .u64 p0.1.num) := (blk_cell hcur o).trans (by have := (hcells 0 (by omega)).trans hg0.1; simpa using this)
  have e1 : w.cell? ⟨b, o + 1, none⟩ = some (.slice A0 m0 c0) := (blk_cell hcur (o + 1)).trans (by have := (hcells 1 (by omega)).trans hg0.2; rw [hp0] at this; simpa using this)
  have hbz : z ≠ b := blk_ne hz hcur (by decide)
  have ez := (blk_cell hz 0).trans rfl
  have HI := Lib.hid (index_first b o (p0 :: r).length cap z p0.1.num n A0 m0 c0 w hll e0 e1 ez hn)
  have HD0 : Hid (DelRel w b o cur.size n (p0 :: r) 1 w) := ⟨cur, hcur, rfl, fun q hq => by rw [hk1] at hq; omega, fun q _ hq => hcells q hq, Mod.refl _ _⟩
  have HB := Lib.hid hb
  have HG := Lib.hid hget
  have HLT := Lib.hid hlt
  have HK1 := Lib.hid hk1
  have HZ := Lib.hid hz
  have HBZ := Lib.hid hbz
  have HSIZE : Hid (o + cap * 2 ≤ cur.size) := hsz
  have HSZ : Hid (o + (p0 :: r).length * 2 ≤ cur.size) := by show _ ≤ _; omega
  have HCAP : Hid ((p0 :: r).length ≤ cap ∧ cap ≤ maxLen) := ⟨hcap, hcm⟩
  clear hlt hget hk1 hb hg0 hp0 e0 e1 ez hrow hcur hcap hcm hsz hcells hz hbz hn
  generalize cur.size = sz at *
  generalize hll' : p0 :: r = l at *
  have HL' := Lib.hid hll'
  clear hll'
  unfold ackF
  unfold ackF at HI
  go_enter Try.func28, Try.ntmps28
  go_wp2_with fail
  refine HI.out.mono ?_
  rintro e w1 ⟨rfl, hm1⟩
  have HD1 : Hid (DelRel w b o sz n l 1 w1) := by
    obtain ⟨cur, a1, a2, a3, a4, a5⟩ := HD0.out
    exact ⟨cur, hm1.blk a1 (fun x => x), a2, a3, a4, a5.trans' hm1 (fun _ _ x => x.elim)⟩
  clear hm1 HI HD0
  go_wp2
  go_loopw [5, 6] (fun i j wr => ∃ k : Nat, 1 ≤ k ∧ k ≤ l.length ∧ i = .int .i64 ((keptOf n (l.take k)).length : Nat) ∧ j = .int .i64 k ∧ Hid (DelRel w b o sz n l k wr)) (fun _ j _ => l.length - (intOf j).toNat)
  case atStart => exact ⟨1, Nat.le_refl _, hll, by rw [HK1.out]; rfl, rfl, HD1⟩
  case round =>
    obtain ⟨k, hk1, hkl, rfl, rfl, hD⟩ := hrel
    have hkp := HLT.out k hk1
    by_cases hlt : k < l.length
    · obtain ⟨p, hp⟩ : ∃ p, l[k]? = some p := ⟨_, List.getElem?_eq_getElem hlt⟩
      obtain ⟨cur, a1, a2, a3, a4, a5⟩ := hD.out
      obtain ⟨g0, g1⟩ := HG.out k p hp
      obtain ⟨Ab, mb, cb, hpv⟩ := HB.out p (List.mem_of_getElem? hp)
      have k0 : wr.cell? ⟨b, o + k * 2, none⟩ = some (.int .u64 p.1.num) := (blk_cell a1 _).trans ((a4 _ (Nat.le_refl _) (by omega)).trans g0)
      have k1 : wr.cell? ⟨b, o + k * 2 + 1, none⟩ = some (.slice Ab mb cb) := (blk_cell a1 _).trans (by have := (a4 (k * 2 + 1) (by omega) (by omega)).trans g1; rw [hpv, ← Nat.add_assoc] at this; exact this)
      have hzr : wr.heap[z]? = some (.cells #[.int .u64 n] 34 (0, 0)) := a5.blk HZ.out (fun e => HBZ.out e)
      have hi : (k : Int) < l.length := by omega
      have hi0 : (0 : Int) ≤ (k : Int) := by omega
      have hbr : b < wr.heap.size := blk_lt a1
      have HA : Hid (∀ W, Mod (fun _ => False) wr W → Calls Try.prog 29 #[.agg #[.int .u64 p.1.num, .slice Ab mb cb], .pointer (some ⟨z, 0, none⟩)] W fun e w' => e = .returned (.bool (decide (p.1.num ≤ n))) ∧ Mod (fun _ => False) W w') :=
        fun W hm => ack1_any _ n _ z W ((blk_cell (hm.blk hzr (fun x => x)) 0).trans rfl)
      have HP := Lib.hid hp
      have HPV := Lib.hid hpv
      have HM0 : Hid (Mod (fun _ => False) wr (wr.alloc (.cells #[.int .u64 p.1.num, .slice Ab mb cb] 45))) := (Mod.refl _ _).alloc _
      have HB0 : Hid ((wr.alloc (.cells #[.int .u64 p.1.num, .slice Ab mb cb] 45)).heap[wr.heap.size]? = some (.cells #[.int .u64 p.1.num, .slice Ab mb cb] 45 (0, 0))) := blk_new _ _
      clear hp hpv a1 a2 a3 a4 a5 g0 g1 hzr
      by_cases hdel : p.1.num ≤ n
      · have HA1 := HA.out _ HM0.out
        rw [decide_eq_true hdel] at HA1
        have HA2 := Lib.hid HA1
        have HDel : Hid (¬ n < p.1.num) := by show ¬ _; omega
        clear HA1 HA hdel
        go_wp2_with fail
        refine HA2.out.mono ?_
        rintro e w2 ⟨rfl, hm2⟩
        have HN := Lib.hid (hD.out.drop HP.out HDel.out (HM0.out.trans hm2))
        have HE : Hid ((keptOf n (l.take (k + 1))).length = (keptOf n (l.take k)).length) := by
          show _ = _
          rw [keptOf_snoc n l k p HP.out, if_neg HDel.out, List.append_nil]
        clear hm2
        go_wp2
        go_roundw
        case rel => exact ⟨k + 1, by omega, by omega, by rw [HE.out], by go_num, HN⟩
        case measure => simp [intOf]; omega
      · have HA1 := HA.out _ HM0.out
        rw [decide_eq_false hdel] at HA1
        have HA2 := Lib.hid HA1
        have HDel : Hid (n < p.1.num) := by show _ < _; omega
        have hkk : (((keptOf n (l.take k)).length : Nat) : Int) < l.length := by omega
        have hkk0 : (0 : Int) ≤ (((keptOf n (l.take k)).length : Nat) : Int) := by omega
        clear HA1 HA hdel
        go_wp2_with fail
        refine HA2.out.mono ?_
        rintro e w2 ⟨rfl, hm2⟩
        have hB2 := hm2.blk HB0.out (fun x => x)
        have d0 := (blk_cell hB2 0).trans rfl
        have d1 := (blk_cell hB2 1).trans rfl
        obtain ⟨cur, a1, a2, a3, a4, a5⟩ := hD.out
        have a1' := (HM0.out.trans hm2).blk a1 (fun x => x)
        have q0 : ∃ y, w2.cell? ⟨b, o + (keptOf n (l.take k)).length * 2, none⟩ = some y := ⟨_, (blk_cell a1' _).trans (Array.getElem?_eq_getElem (by have := HSZ.out; omega))⟩
        have q1 : ∃ y, w2.cell? ⟨b, o + (keptOf n (l.take k)).length * 2 + 1, none⟩ = some y := ⟨_, (blk_cell a1' _).trans (Array.getElem?_eq_getElem (by have := HSZ.out; omega))⟩
        obtain ⟨y0, q0⟩ := q0
        obtain ⟨y1, q1⟩ := q1
        have f0 := blk_frozen a1' (o + (keptOf n (l.take k)).length * 2)
        have f1 := blk_frozen a1' (o + (keptOf n (l.take k)).length * 2 + 1)
        have HN := hD.out.keep HP.out HDel.out (HM0.out.trans hm2) hkp HSZ.out
        rw [HPV.out] at HN
        have HN' := Lib.hid HN
        have HE : Hid ((keptOf n (l.take (k + 1))).length = (keptOf n (l.take k)).length + 1) := by
          show _ = _
          rw [keptOf_snoc n l k p HP.out, if_pos HDel.out, List.length_append]
          rfl
        clear hm2 hB2 a1 a1' a2 a3 a4 a5 HN
        generalize (keptOf n (l.take k)).length = kl at *
        go_wp2
        go_roundw
        case rel => exact ⟨k + 1, by omega, by omega, by rw [HE.out]; go_num, by go_num, HN'⟩
        case measure => simp [intOf]; omega
    · obtain rfl : k = l.length := by omega
      obtain ⟨cur, a1, a2, a3, a4, a5⟩ := hD.out
      rw [List.take_length] at hkp a3 ⊢
      have HC := HCAP.out
      have hcl := fun ty => run_clear_items wr ty b (o + (keptOf n l).length * 2) (l.length - (keptOf n l).length) (cap - (keptOf n l).length) (by omega)
        (fun j hj => by rw [blk_cell a1, Array.getElem?_eq_getElem (by have := HSZ.out; omega)]; rfl) (fun j => blk_frozen a1 _)
      have hn1 : ¬ cap = (keptOf n l).length := by omega
      have hi1 : (((keptOf n l).length : Nat) : Int) ≤ l.length := by omega
      have hi2 : (((keptOf n l).length : Nat) : Int) ≤ cap := by omega
      have hi0 : (0 : Int) ≤ (((keptOf n l).length : Nat) : Int) := by omega
      have HE : Hid (DelEnd w b o cap n l (.returned (.slice (some ⟨b, o, none⟩) (keptOf n l).length cap)) (wr.setCells b (o + (keptOf n l).length * 2) (Builtin.zeroCells #[.int .u64 0, .slice none 0 0] (l.length - (keptOf n l).length)).toList)) := by
        refine ⟨rfl, ⟨flat_length _, .inr ⟨b, o, cap, _, rfl, heap_setCells_block b _ _ _ _ wr cur a1, by omega, HC.2, by rw [size_putAll, a2]; exact HSIZE.out, fun q hq => ?_⟩⟩, a5.trans' (Mod.of_grown (S := (· = b)) (grownBy_setCells b _ _ wr) (fun k e _ => by cases e; rfl)) (fun _ _ e => e)⟩
        rw [putAll_out _ _ _ _ (by omega)]
        exact a3 q hq
      clear a1 a2 a3 a4 a5 HC
      generalize (keptOf n l).length = m at *
      go_wp2
      go_ret
      exact HE.out
end Go.Proofs.Ytcgfbbfepopinaa
