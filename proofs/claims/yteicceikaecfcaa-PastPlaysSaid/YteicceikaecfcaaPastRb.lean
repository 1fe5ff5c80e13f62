/-
  Package past: the reference's both; its state; Taken, Before, Can.
-/
import Derived.Test.YteicceikaecfcaaPastRa
namespace Go.Proofs.Yteicceikaecfcaa
open Go.RowKit Go.Shoal Go.Maps

set_option maxRecDepth 100000 in
set_option maxHeartbeats 8000000 in
theorem rboth_any (a b : Value) (f g : Nat → Bool) (one : Nat) (w : World) (ha : Bits w a f) (hb : Bits w b g) (ho : one < 1000) :
    Calls Try.prog 33 #[a, b, .int .i64 one] w fun e w' => ∃ v, e = .returned v ∧ Bits w' v (fun j => (f j || g j) || j == one) ∧ Mod (fun _ => False) w w' := by
  have HA := Lib.hid ha
  have HB := Lib.hid hb
  obtain ⟨L, hr, hl, hf⟩ := ha
  obtain ⟨M, hr', hl', hg⟩ := hb
  obtain ⟨A, c, rfl⟩ := RowOf.form hr
  obtain ⟨A', c', rfl⟩ := RowOf.form hr'
  obtain ⟨N, hN⟩ : ∃ N, N = max (max (one + 1) L.length) M.length := ⟨_, rfl⟩
  obtain ⟨N1, hN1⟩ : ∃ N, N = max (one + 1) L.length := ⟨_, rfl⟩
  have HF : Hid (∀ j, N ≤ j → ((f j || g j) || j == one) = false) := fun j hj => by
    rw [hf j, hg j, List.getD_eq_getElem?_getD, List.getD_eq_getElem?_getD, List.getElem?_eq_none (by omega), List.getElem?_eq_none (by omega)]
    simp
    omega
  have HN : Hid (N ≤ 1000) := by show _ ≤ _; omega
  have hmk := mk_bools N HN.out
  have HMX := Lib.hid hN
  have HM1 := Lib.hid hN1
  have hlb : (L.length : Int) ≤ 1000 := by omega
  have hlb' : (M.length : Int) ≤ 1000 := by omega
  have hob : (one : Int) < 1000 := by omega
  clear hr hr' hf hg hN hN1
  generalize L.length = ll at *
  generalize M.length = lm at *
  obtain ⟨F, hFe⟩ : ∃ F : Nat → Bool, F = fun j => (f j || g j) || j == one := ⟨_, rfl⟩
  have HF2 : Hid (∀ j, N ≤ j → F j = false) := by rw [hFe]; exact HF.out
  have HFV : Hid (∀ j, F j = ((f j || g j) || j == one)) := by rw [hFe]; exact fun j => rfl
  rw [← hFe]
  clear HF hFe
  go_enter Try.func33, Try.ntmps33
  go_upto_if 15 with fail
  go_cut [7] (fun s7 wx => s7 = .int .i64 (N1 : Nat) ∧ wx = w)
  case first =>
    rename_i J0 K0 hJ0 hK0
    have HJ := Lib.hid hJ0
    clear hJ0
    by_cases h : one + 1 < ll
    · have t1 : decide ((one : Int) + 1 < (ll : Int)) = true := decide_eq_true (by omega)
      have t2 : (one : Int) + 1 < (ll : Int) := by omega
      have HE : Hid (N1 = ll) := by have := HM1.out; show _ = _; omega
      clear h
      go_wp2
      refine Met.intro ?_
      refine HJ.out _ _ ?_
      repeat apply Exists.intro
      refine ⟨?rel, rfl⟩
      case rel => exact ⟨by rw [HE.out], rfl⟩
    · have t1 : decide ((one : Int) + 1 < (ll : Int)) = false := decide_eq_false (by omega)
      have t2 : ¬ (one : Int) + 1 < (ll : Int) := by omega
      have HE : Hid (N1 = one + 1) := by have := HM1.out; show _ = _; omega
      clear h
      go_wp2
      refine Met.intro ?_
      refine HJ.out _ _ ?_
      repeat apply Exists.intro
      refine ⟨?rel, rfl⟩
      case rel => exact ⟨by rw [HE.out]; go_num, rfl⟩
  case rest =>
    obtain ⟨rfl, hw⟩ := hcut
    subst hw
    have hn1 : (N1 : Int) ≤ 1000 := by have := HM1.out; omega
    go_upto_if 21 with fail
    go_cut [7] (fun s7 wx => s7 = .int .i64 (N : Nat) ∧ wx = wc)
    case first =>
      rename_i J0 K0 hJ0 hK0
      have HJ := Lib.hid hJ0
      clear hJ0
      by_cases h : N1 < lm
      · have t1 : decide (N1 < lm) = true := decide_eq_true h
        have HE : Hid (N = lm) := by have h1 := HM1.out; have h2 := HMX.out; show _ = _; omega
        go_wp2
        refine Met.intro ?_
        refine HJ.out _ _ ?_
        repeat apply Exists.intro
        refine ⟨?rel, rfl⟩
        case rel => exact ⟨by rw [HE.out], rfl⟩
      · have t1 : decide (N1 < lm) = false := decide_eq_false h
        have HE : Hid (N = N1) := by have h1 := HM1.out; have h2 := HMX.out; show _ = _; omega
        go_wp2
        refine Met.intro ?_
        refine HJ.out _ _ ?_
        repeat apply Exists.intro
        refine ⟨?rel, rfl⟩
        case rel => exact ⟨by rw [HE.out], rfl⟩
    case rest =>
      obtain ⟨rfl, hw⟩ := hcut
      subst hw
      have H0 : Hid (BothRel wc N F 0 (wc.alloc (.cells (madeCells #[.bool false] N) 4))) := ⟨⟨_, blk_new _ _, size_madeCells _ _, fun j hj => by omega⟩, (Mod.refl _ _).alloc _⟩
      have hNb : (N : Int) ≤ 1000 := by have := HN.out; omega
      clear HMX HM1 hn1
      go_wp2
      clear hmk
      go_loopw [9] (fun i wr => ∃ k : Nat, k ≤ N ∧ i = .int .i64 k ∧ Hid (BothRel wc N F k wr)) (fun i _ => N - (intOf i).toNat)
      case atStart => exact ⟨0, Nat.zero_le _, rfl, H0⟩
      case round =>
        obtain ⟨k, hk, rfl, hR⟩ := hrel
        by_cases hlt : k < N
        · obtain ⟨⟨cur, hcb, hcs, -⟩, hcm⟩ := hR.out
          have dk : ∃ y, wr.cell? ⟨wc.heap.size, k, none⟩ = some y := ⟨_, (blk_cell hcb k).trans (Array.getElem?_eq_getElem (by omega))⟩
          obtain ⟨y, dk⟩ := dk
          have fk := blk_frozen hcb k
          have hi0 : (0 : Int) ≤ (k : Int) := by omega
          have hi1 : (k : Int) < (N : Int) := by omega
          have tk : decide (k < N) = true := decide_eq_true hlt
          have hkb : (k : Int) < 1000 := by omega
          have HS := Lib.hid (hR.out.step hlt)
          have H1 := Lib.hid (rhas_any _ f k wr (HA.out.quiet hcm))
          have H2 := Lib.hid (rhas_any _ g k wr (HB.out.quiet hcm))
          have HV := Lib.hid (HFV.out k)
          rw [HV.out] at HS
          clear hR hcb hcs hcm hlt HV
          generalize f k = fa at *
          generalize g k = fb at *
          generalize wc.heap.size = X at *
          go_wp2_with fail
          refine H1.out.mono ?_
          rintro e w1 ⟨rfl, rfl⟩
          clear H1
          cases fa with
          | true =>
            clear H2
            go_wp2
            go_roundw
            case rel => exact ⟨k + 1, by omega, by go_num, HS⟩
            case measure => simp [intOf]; omega
          | false =>
            go_wp2_with fail
            refine H2.out.mono ?_
            rintro e w1 ⟨rfl, rfl⟩
            clear H2
            cases fb with
            | true =>
              go_wp2
              go_roundw
              case rel => exact ⟨k + 1, by omega, by go_num, HS⟩
              case measure => simp [intOf]; omega
            | false =>
              by_cases ho : k = one
              · have t0 : (k == one) = true := beq_iff_eq.2 ho
                rw [t0] at HS
                have t1 : ((k : Int) == (one : Int)) = true := beq_iff_eq.2 (by omega)
                clear t0
                clear ho
                go_wp2
                go_roundw
                case rel => exact ⟨k + 1, by omega, by go_num, HS⟩
                case measure => simp [intOf]; omega
              · have t0 : (k == one) = false := beq_eq_false_iff_ne.2 ho
                rw [t0] at HS
                have t1 : ((k : Int) == (one : Int)) = false := beq_eq_false_iff_ne.2 (by omega)
                clear t0
                clear ho
                go_wp2
                go_roundw
                case rel => exact ⟨k + 1, by omega, by go_num, HS⟩
                case measure => simp [intOf]; omega
        · obtain rfl : k = N := by omega
          have ti : decide (k < k) = false := decide_eq_false (by omega)
          have HE : Hid (Bits wr (.slice (some ⟨wc.heap.size, 0, none⟩) k k) F ∧ Mod (fun _ => False) wc wr) := ⟨hR.out.done HN.out HF2.out, hR.out.mod⟩
          clear hR hlt
          go_wp2
          go_ret
          exact ⟨_, rfl, HE.out⟩
/-- The reference's state, beside Past's: where it lies. -/
structure Re where
  rows : List (Ms × Value)
  mv : Value
  kR : Nat
  tR : Nat
  kv : Nat → Value
  gv : Nat → Value
def rcells (x : Ms × Value) : List Value := [.int .i64 (x.1.frm : Int), .int .u64 (x.1.num : Int), .int .u64 (x.1.to : Int), x.2]
theorem rcells_len (x : Ms × Value) : (rcells x).length = 4 := rfl
structure RAt (w : World) (R : Nat) (r : Re) (s : Pa) : Prop where
  top : w.heap[R]? = some (.cells #[.int .i64 (s.n : Int), r.mv, .slice (some ⟨r.kR, 0, none⟩) s.n s.n, .slice (some ⟨r.tR, 0, none⟩) s.n s.n] 62 (0, 0))
  ms : RowOf w 57 4 r.mv r.rows.length (r.rows.flatMap rcells)
  fs : r.rows.map Prod.fst = s.all
  kn : w.heap[r.kR]? = some (.cells ((List.range s.n).map r.kv).toArray 55 (0, 0))
  gt : w.heap[r.tR]? = some (.cells ((List.range s.n).map r.gv).toArray 44 (0, 0))
  ah : ∀ x ∈ r.rows, Bits w x.2 x.1.ahead
  ks : ∀ q, q < s.n → Bits w (r.kv q) (s.knows q)
  gs : ∀ q, q < s.n → RowOf w 3 1 (r.gv q) (s.got q).length ((s.got q).map fun (k : Nat) => Value.int .i64 (k : Int))
/-- The types of the reference's blocks. -/
def RefT (t : Nat) : Prop := t = 62 ∨ t = 57 ∨ t = 55 ∨ t = 44 ∨ t = 4 ∨ t = 3
/-- The blocks that it writes. -/
def RMut (R : Nat) (r : Re) (b : Nat) : Prop := b = R ∨ r.mv.ownBlock = some b ∨ b = r.kR ∨ b = r.tR
theorem RAt.mut {w : World} {R : Nat} {r : Re} {s : Pa} (h : RAt w R r s) {b : Nat} (hb : RMut R r b) : ∃ cs t, w.heap[b]? = some (.cells cs t (0, 0)) ∧ RefT t ∧ t ≠ 4 ∧ t ≠ 3 := by
  rcases hb with rfl | hb | rfl | rfl
  · exact ⟨_, _, h.top, .inl rfl, by decide, by decide⟩
  · obtain ⟨cs, hc⟩ := h.ms.block hb
    exact ⟨_, _, hc, .inr (.inl rfl), by decide, by decide⟩
  · exact ⟨_, _, h.kn, .inr (.inr (.inl rfl)), by decide, by decide⟩
  · exact ⟨_, _, h.gt, .inr (.inr (.inr (.inl rfl))), by decide, by decide⟩
theorem RAt.mod {w w' : World} {R : Nat} {r : Re} {s : Pa} {S : Nat → Prop} (h : RAt w R r s) (hm : Mod S w w') (hs : ∀ b cs t, w.heap[b]? = some (.cells cs t (0, 0)) → RefT t → ¬ S b) : RAt w' R r s := by
  refine ⟨hm.blk h.top (hs _ _ _ h.top (.inl rfl)), h.ms.mod hm (fun b hb => ?_), h.fs, hm.blk h.kn (hs _ _ _ h.kn (.inr (.inr (.inl rfl)))), hm.blk h.gt (hs _ _ _ h.gt (.inr (.inr (.inr (.inl rfl))))), fun x hx => (h.ah x hx).mod hm (fun b hb => ?_), fun q hq => (h.ks q hq).mod hm (fun b hb => ?_), fun q hq => (h.gs q hq).mod hm (fun b hb => ?_)⟩
  · obtain ⟨cs, hc⟩ := h.ms.block hb
    exact hs _ _ _ hc (.inr (.inl rfl))
  · obtain ⟨cs, hc⟩ := (h.ah x hx).block hb
    exact hs _ _ _ hc (.inr (.inr (.inr (.inr (.inl rfl)))))
  · obtain ⟨cs, hc⟩ := (h.ks q hq).block hb
    exact hs _ _ _ hc (.inr (.inr (.inr (.inr (.inl rfl)))))
  · obtain ⟨cs, hc⟩ := (h.gs q hq).block hb
    exact hs _ _ _ hc (.inr (.inr (.inr (.inr (.inr rfl)))))
theorem RAt.same {w w' : World} {R : Nat} {r : Re} {s : Pa} (h : RAt w R r s) (hm : Mod (fun _ => False) w w') : RAt w' R r s := h.mod hm (fun _ _ _ _ _ x => x)
/-- None of the reference's blocks is Past's. -/
theorem foot_far {w : World} {B b : Nat} {s : Pa} {cs : Array Value} {t : Nat} (h : PastAt w B s) (hb : w.heap[b]? = some (.cells cs t (0, 0))) (ht : RefT t) : ¬ Foot B s b := by
  intro hf
  have ht2 : t ≠ 69 ∧ t ≠ 73 ∧ t ≠ 71 ∧ t ≠ 30 ∧ t ≠ 28 ∧ t ≠ 34 := by
    rcases ht with rfl | rfl | rfl | rfl | rfl | rfl <;> decide
  obtain ⟨n1, n2, n3, n4, n5, n6⟩ := ht2
  rcases hf with rfl | hf | rfl | rfl | rfl | rfl | ⟨q, hq, rfl⟩ | ⟨m, hm, rfl⟩ | ⟨q, hq, hf⟩
  · exact blk_ne hb h.top n1 rfl
  · exact row_ne h.all hb (Ne.symm n2) _ hf rfl
  · exact blk_ne hb h.krow n3 rfl
  · exact blk_ne hb h.crow n4 rfl
  · exact blk_ne hb h.trow n5 rfl
  · obtain ⟨es, c, hh⟩ := h.had.isMap
    exact ne_map hb hh rfl
  · obtain ⟨es, c, hh⟩ := (h.ks q hq).isMap
    exact ne_map hb hh rfl
  · obtain ⟨es, c, hh⟩ := (h.sets m hm).isMap
    exact ne_map hb hh rfl
  · exact row_ne (h.ts q hq) hb (Ne.symm n6) _ hf rfl
theorem RAt.past {w w' : World} {R B : Nat} {r : Re} {s s' : Pa} (h : RAt w R r s) (hp : PastAt w B s') (hm : Mod (Foot B s') w w') : RAt w' R r s := h.mod hm (fun _ _ _ hb ht => foot_far hp hb ht)
/-- A message of the reference. -/
theorem RAt.elem {w : World} {R : Nat} {r : Re} {s : Pa} (h : RAt w R r s) {k : Nat} {m : Ms} (hk : s.all[k]? = some m) :
    ∃ b o cap v, r.mv = .slice (some ⟨b, o, none⟩) s.all.length cap ∧ w.cell? ⟨b, o + k * 4, none⟩ = some (.int .i64 (m.frm : Int)) ∧ w.cell? ⟨b, o + k * 4 + 1, none⟩ = some (.int .u64 (m.num : Int)) ∧ w.cell? ⟨b, o + k * 4 + 2, none⟩ = some (.int .u64 (m.to : Int)) ∧ w.cell? ⟨b, o + k * 4 + 3, none⟩ = some v ∧ Bits w v m.ahead := by
  have hl : r.rows.length = s.all.length := by rw [← h.fs, List.length_map]
  rw [← h.fs, List.getElem?_map] at hk
  cases hx : r.rows[k]? with
  | none => rw [hx] at hk; cases hk
  | some x =>
    rw [hx] at hk
    obtain rfl : x.1 = m := by simpa using hk
    obtain ⟨b, o, cap, he, hb, hc⟩ := RowOf.elem rcells_len h.ms hx
    exact ⟨b, o, cap, x.2, by rw [he, hl], hc 0 _ rfl, hc 1 _ rfl, hc 2 _ rfl, hc 3 _ rfl, h.ah x (List.mem_of_getElem? hx)⟩
theorem RAt.form {w : World} {R : Nat} {r : Re} {s : Pa} (h : RAt w R r s) : ∃ A c, r.mv = .slice A s.all.length c := by
  obtain ⟨A, c, e⟩ := RowOf.form h.ms
  exact ⟨A, c, by rw [e, ← h.fs, List.length_map]⟩
theorem RAt.cells {w : World} {R : Nat} {r : Re} {s : Pa} (h : RAt w R r s) : w.cell? ⟨R, 0, none⟩ = some (.int .i64 (s.n : Int)) ∧ w.cell? ⟨R, 1, none⟩ = some r.mv ∧ w.cell? ⟨R, 2, none⟩ = some (.slice (some ⟨r.kR, 0, none⟩) s.n s.n) ∧ w.cell? ⟨R, 3, none⟩ = some (.slice (some ⟨r.tR, 0, none⟩) s.n s.n) :=
  ⟨(blk_cell h.top 0).trans rfl, (blk_cell h.top 1).trans rfl, (blk_cell h.top 2).trans rfl, (blk_cell h.top 3).trans rfl⟩
theorem RAt.kcell {w : World} {R : Nat} {r : Re} {s : Pa} (h : RAt w R r s) {q : Nat} (hq : q < s.n) : w.cell? ⟨r.kR, q, none⟩ = some (r.kv q) := (blk_cell h.kn q).trans (row_at _ hq)
theorem RAt.gcell {w : World} {R : Nat} {r : Re} {s : Pa} (h : RAt w R r s) {q : Nat} (hq : q < s.n) : w.cell? ⟨r.tR, q, none⟩ = some (r.gv q) := (blk_cell h.gt q).trans (row_at _ hq)
end Go.Proofs.Yteicceikaecfcaa
