/-
  film.Cut.
-/
import Derived.Test.YtlklbdnlpljaiaaDoorFmL
import Derived.Test.YtlklbdnlpljaiaaDoorSetMap
import Derived.Maps.OwnSet
namespace Go.Proofs.YtlklbdnlpljaiaaDoor
open Go.RowKit Go.Shoal Go.WideShapes Go.Maps Go.ChangeMaps

/-- Events that can be read at a slice value. -/
def EvIn (w : World) (v : Value) (l : List Ev) : Prop :=
  ∃ A c, v = .slice A l.length c ∧ ∀ k e, l[k]? = some e → ∃ b o, A = some ⟨b, o, none⟩ ∧ b < w.heap.size ∧ ∀ j u, e.cells[j]? = some u → w.cell? ⟨b, o + k * 9 + j, none⟩ = some u
theorem EvIn.mod {w w' : World} {v : Value} {l : List Ev} (h : EvIn w v l) (hm : Mod (fun _ => False) w w') : EvIn w' v l := by
  obtain ⟨A, c, e, h⟩ := h
  refine ⟨A, c, e, fun k x hx => ?_⟩
  obtain ⟨b, o, e1, hb, hc⟩ := h k x hx
  exact ⟨b, o, e1, Nat.lt_of_lt_of_le hb hm.size, fun j u hu => (World.cell?_of_block (hm.block b hb (fun x => x))).trans (hc j u hu)⟩
theorem Evs.evIn {w : World} {v : Value} {l : List Ev} (h : Evs w v l) : EvIn w v l := by
  obtain ⟨A, c, rfl, _, _, hz⟩ := h
  refine ⟨A, c, rfl, fun k e he => ?_⟩
  have hk := (List.getElem?_eq_some_iff.1 he).1
  rcases hz with rfl | ⟨b, o, rfl, hb, hc⟩
  · simp at he
  · refine ⟨b, o, rfl, hb, fun j u hu => hc k j u hk ?_⟩
    rw [List.getD_eq_getElem?_getD, he]
    exact hu
theorem EvIn.nine {w w' : World} {A : Option Addr} {c : Nat} {l : List Ev} (h : EvIn w (.slice A l.length c) l) (hm : Below w.heap.size w w') {k : Nat} {e : Ev} (he : l[k]? = some e) :
    ∃ b o, A = some ⟨b, o, none⟩ ∧ b < w.heap.size ∧ w'.cell? ⟨b, o + k * 9, none⟩ = some (.int .i64 e.kind) ∧ w'.cell? ⟨b, o + k * 9 + 1, none⟩ = some (.int .i64 e.p) ∧ w'.cell? ⟨b, o + k * 9 + 2, none⟩ = some (.int .i64 e.frm) ∧ w'.cell? ⟨b, o + k * 9 + 3, none⟩ = some (.int .u64 e.num) ∧ w'.cell? ⟨b, o + k * 9 + 4, none⟩ = some (.int .u64 e.dst) ∧ w'.cell? ⟨b, o + k * 9 + 5, none⟩ = some (.int .i64 e.var) ∧ w'.cell? ⟨b, o + k * 9 + 6, none⟩ = some (.float .f64 e.x) ∧ w'.cell? ⟨b, o + k * 9 + 7, none⟩ = some (.int .u64 e.tag) ∧ w'.cell? ⟨b, o + k * 9 + 8, none⟩ = some (.int .i64 e.err) := by
  obtain ⟨A', c', e', h⟩ := h
  cases e'
  obtain ⟨b, o, e1, hb, hc⟩ := h k e he
  have hj : ∀ j u, e.cells[j]? = some u → w'.cell? ⟨b, o + k * 9 + j, none⟩ = some u := fun j u hu => (hm.cell (p := ⟨b, o + k * 9 + j, none⟩) hb).trans (hc j u hu)
  exact ⟨b, o, e1, hb, hj 0 _ rfl, hj 1 _ rfl, hj 2 _ rfl, hj 3 _ rfl, hj 4 _ rfl, hj 5 _ rfl, hj 6 _ rfl, hj 7 _ rfl, hj 8 _ rfl⟩
/-! The plain law: which variable each asks for. -/
def badB (f : Int → Option Int) (e : Ev) : Bool := match f e.p with | some v => e.kind != 5 || e.var != v | none => false
def nextF (f : Int → Option Int) (e : Ev) : Int → Option Int := fun q => if q = e.p then (if e.kind = 4 then some e.var else none) else f q
def stepC (s : Option (Int → Option Int)) (e : Ev) : Option (Int → Option Int) :=
  match s with
  | none => none
  | some f => if e.kind < 3 ∨ 5 < e.kind then some f else if badB f e = true then none else some (nextF f e)
def cutS (l : List Ev) : Option (Int → Option Int) := l.foldl stepC (some fun _ => none)
def cutB (l : List Ev) : Bool := (cutS l).isSome
theorem cutS_snoc (l : List Ev) (e : Ev) : cutS (l ++ [e]) = stepC (cutS l) e := by simp [cutS, List.foldl_append]
theorem cutS_none (l : List Ev) (k : Nat) (h : cutS (l.take k) = none) : cutB l = false := by
  have hn : ∀ r : List Ev, r.foldl stepC none = none := by
    intro r
    induction r with
    | nil => rfl
    | cons x r ih => exact ih
  have e : cutS l = (l.drop k).foldl stepC (cutS (l.take k)) := by
    unfold cutS
    rw [← List.foldl_append, List.take_append_drop]
  unfold cutB
  rw [e, h, hn]
  rfl
/-- A map from numbers to numbers. -/
def AskAt (w : World) (b n : Nat) (f : Int → Option Int) : Prop :=
  ∃ D : DataW Unit, w.ownsMap Tryd.prog 3 (plainElem Tryd.prog 3) b n D ∧ ∀ z : Int, Maps.has D (.int .i64 z) = (f z).isSome ∧ D.atKey (.int .i64 z) (.lit (.int .i64 0)) = .lit (.int .i64 ((f z).getD 0))
theorem zero_int (w : World) : (zeroValue 3).run Tryd.prog w = .ok (.int .i64 0) w := by kernel_rfl
theorem litI_ne {a b : Int} (h : a ≠ b) : (Lit.int .i64 a) ≠ .int .i64 b := fun e => by injection e with _ e; exact h e
theorem wfI {z : Int} (h : I64 z) : (Lit.int .i64 z).wf = true := WalkArith.wf_i64 (by have h1 := h.1; have h2 := h.2; omega)
theorem AskAt.made (w : World) : AskAt (w.alloc (.map #[] 0)) w.heap.size 0 (fun _ => none) :=
  ⟨_, World.ownsMap_made w Tryd.prog _ _, fun _ => ⟨rfl, rfl⟩⟩
theorem AskAt.keep {w w' : World} {b n : Nat} {f : Int → Option Int} (h : AskAt w b n f) (hb : w'.heap[b]? = w.heap[b]?) : AskAt w' b n f := by
  obtain ⟨D, h1, h2⟩ := h
  exact ⟨D, ownsMap_keep h1 hb, h2⟩
theorem AskAt.lt {w : World} {b n : Nat} {f : Int → Option Int} (h : AskAt w b n f) : b < w.heap.size := by
  obtain ⟨D, h1, _⟩ := h
  exact h1.lt
set_option maxRecDepth 100000 in
theorem AskAt.look {w : World} {b n : Nat} {f : Int → Option Int} (h : AskAt w b n f) (z : Int) (hz : I64 z) :
    (Instr.lookup 60 (.map (some b)) (.int .i64 z) true).run Tryd.prog w = .ok (.tuple #[.int .i64 ((f z).getD 0), .bool (f z).isSome]) w := by
  obtain ⟨D, h1, h2⟩ := h
  obtain ⟨v, ps, hr, hv⟩ := h1.look_ok (int_keyed Tryd.underlying3) Tryd.underlying60 (zero_int w) (plainElem_int (q := .i64) Tryd.underlying3 (a := 0) (by decide)) (keyOf_int_mk Tryd.underlying3 (wfI hz))
  obtain ⟨c, rfl, hc, _⟩ := plainElem_int_inv Tryd.underlying3 hv
  have hc := congrArg Prod.fst hc
  rw [(h2 z).2] at hc
  injection hc with hc
  injection hc with _ hc
  rw [hr, (h2 z).1, hc]
/-- While Cut reads. -/
def CutRel (w : World) (b : Nat) (l : List Ev) (k : Nat) (wr : World) : Prop :=
  ∃ f n, cutS (l.take k) = some f ∧ AskAt wr b n f ∧ n ≤ k ∧ Mod (fun q => q = b) w wr
set_option maxRecDepth 100000 in
set_option maxHeartbeats 16000000 in
theorem cut_any (v : Value) (l : List Ev) (w : World) (h : EvIn w v l) (hl : l.length ≤ 1000) (hok : ∀ e ∈ l, e.Ok) :
    Calls Tryd.prog 17 #[v] w fun q w' => q = .returned (.bool (cutB l)) ∧ Mod (fun _ => False) w w' := by
  have HI := Lib.hid h
  obtain ⟨A, c, rfl, -⟩ := h
  obtain ⟨R, hR⟩ : ∃ R, R = cutB l := ⟨_, rfl⟩
  rw [← hR]
  have HR := Lib.hid hR
  have HOK := Lib.hid hok
  have H0 : Hid (CutRel w w.heap.size l 0 (w.alloc (.map #[] 0))) := ⟨_, 0, rfl, AskAt.made w, Nat.le_refl _, (Mod.refl _ _).alloc _⟩
  have HEND : Hid (∀ W, Mod (fun q => q = w.heap.size) w W → Mod (fun _ => False) w W) := fun W hW => hW.mono (fun i hi e => by omega)
  clear hR hok
  have hmm := @run_makeMap Tryd.prog
  go_enter Tryd.func17, Tryd.ntmps17
  go_wp2
  clear hmm
  go_loopw [11] (fun i wr => ∃ k : Nat, k ≤ l.length ∧ i = .int .i64 k ∧ Hid (CutRel w w.heap.size l k wr)) (fun i _ => l.length - (intOf i).toNat)
  case atStart => exact ⟨0, Nat.zero_le _, rfl, H0⟩
  case round =>
    obtain ⟨k, hk, rfl, hD⟩ := hrel
    obtain ⟨fn, nn, hcs, hask, hnk, hmr⟩ := hD.out
    by_cases hlt : k < l.length
    · obtain ⟨e, he⟩ : ∃ e, l[k]? = some e := ⟨_, List.getElem?_eq_getElem hlt⟩
      obtain ⟨b, o, rfl, hb, k0, k1, k2, k3, k4, k5, k6, k7, k8⟩ := HI.out.nine (HEND.out wr hmr).none_below he
      have hi : (k : Int) < l.length := by omega
      have hi0 : (0 : Int) ≤ (k : Int) := by omega
      have tk : decide (k < l.length) = true := decide_eq_true hlt
      have hkb : (k : Int) < 1000 := by omega
      have heok := HOK.out e (List.mem_of_getElem? he)
      have hpw := heok.p
      have hvw := heok.v
      have HT : Hid (cutS (l.take (k + 1)) = stepC (some fn) e) := by
        show _ = _
        rw [take_snocE he, cutS_snoc, hcs]
      have hxb : ¬ w.heap.size = wr.heap.size := by have := hask.lt; omega
      clear he heok hcs hD hb
      obtain ⟨kd, p, f, n, d, vr, x, g, r⟩ := e
      dsimp only at k0 k1 k2 k3 k4 k5 k6 k7 k8 hpw hvw
      have hblk : (wr.alloc (.cells #[.int .i64 kd, .int .i64 p, .int .i64 f, .int .u64 n, .int .u64 d, .int .i64 vr, .float .f64 x, .int .u64 g, .int .i64 r] 31)).heap[wr.heap.size]? = some (.cells #[.int .i64 kd, .int .i64 p, .int .i64 f, .int .u64 n, .int .u64 d, .int .i64 vr, .float .f64 x, .int .u64 g, .int .i64 r] 31 (0, 0)) := blk_new _ _
      have hask2 : AskAt (wr.alloc (.cells #[.int .i64 kd, .int .i64 p, .int .i64 f, .int .u64 n, .int .u64 d, .int .i64 vr, .float .f64 x, .int .u64 g, .int .i64 r] 31)) w.heap.size nn fn := hask.keep (Below.heap_alloc wr (.cells #[.int .i64 kd, .int .i64 p, .int .i64 f, .int .u64 n, .int .u64 d, .int .i64 vr, .float .f64 x, .int .u64 g, .int .i64 r] 31) _ hask.lt)
      have HMR2 : Hid (Mod (fun q => q = w.heap.size) w (wr.alloc (.cells #[.int .i64 kd, .int .i64 p, .int .i64 f, .int .u64 n, .int .u64 d, .int .i64 vr, .float .f64 x, .int .u64 g, .int .i64 r] 31))) := hmr.alloc _
      have hlk := hask2.look p hpw
      have HBLK := Lib.hid hblk
      have m0 := (blk_cell hblk 0).trans rfl
      have m1 := (blk_cell hblk 1).trans rfl
      have m5 := (blk_cell hblk 5).trans rfl
      have HASK2 := Lib.hid hask2
      clear hask hmr hblk hask2
      by_cases hlo : kd < 3
      · have t1 : decide (kd < 3) = true := decide_eq_true hlo
        have HN : Hid (CutRel w w.heap.size l (k + 1) (wr.alloc (.cells #[.int .i64 kd, .int .i64 p, .int .i64 f, .int .u64 n, .int .u64 d, .int .i64 vr, .float .f64 x, .int .u64 g, .int .i64 r] 31))) := ⟨fn, nn, by rw [HT.out]; exact if_pos (.inl hlo), HASK2.out, by omega, HMR2.out⟩
        clear HT hlo hlk HASK2 HMR2
        go_wp2
        go_roundw
        case rel => exact ⟨k + 1, by omega, by go_num, HN⟩
        case measure => simp [intOf]; omega
      have t1 : decide (kd < 3) = false := decide_eq_false hlo
      by_cases hhi : 5 < kd
      · have t2 : decide (5 < kd) = true := decide_eq_true hhi
        have HN : Hid (CutRel w w.heap.size l (k + 1) (wr.alloc (.cells #[.int .i64 kd, .int .i64 p, .int .i64 f, .int .u64 n, .int .u64 d, .int .i64 vr, .float .f64 x, .int .u64 g, .int .i64 r] 31))) := ⟨fn, nn, by rw [HT.out]; exact if_pos (.inr hhi), HASK2.out, by omega, HMR2.out⟩
        clear HT hlo hhi hlk HASK2 HMR2
        go_wp2
        go_roundw
        case rel => exact ⟨k + 1, by omega, by go_num, HN⟩
        case measure => simp [intOf]; omega
      have t2 : decide (5 < kd) = false := decide_eq_false hhi
      have HT2 : Hid (cutS (l.take (k + 1)) = if badB fn ⟨kd, p, f, n, d, vr, x, g, r⟩ = true then none else some (nextF fn ⟨kd, p, f, n, d, vr, x, g, r⟩)) := by
        show _ = _
        rw [HT.out]
        exact if_neg (fun hh => hh.elim hlo hhi)
      clear HT hlo hhi
      cases hbad : badB fn ⟨kd, p, f, n, d, vr, x, g, r⟩ with
      | true =>
        have HF : Hid (R = false) := by
          show _ = _
          rw [HR.out]
          exact cutS_none l (k + 1) (by rw [HT2.out, if_pos hbad])
        unfold badB at hbad
        dsimp only at hbad
        cases hfp : fn p with
        | none => rw [hfp] at hbad; cases hbad
        | some u =>
          rw [hfp] at hbad hlk
          dsimp only at hbad
          have HMF := Lib.hid (HEND.out _ HMR2.out)
          have hlk' : (Instr.lookup 60 (.map (some w.heap.size)) (.int .i64 p) true).run Tryd.prog (wr.alloc (.cells #[.int .i64 kd, .int .i64 p, .int .i64 f, .int .u64 n, .int .u64 d, .int .i64 vr, .float .f64 x, .int .u64 g, .int .i64 r] 31)) = .ok (.tuple #[.int .i64 u, .bool true]) (wr.alloc (.cells #[.int .i64 kd, .int .i64 p, .int .i64 f, .int .u64 n, .int .u64 d, .int .i64 vr, .float .f64 x, .int .u64 g, .int .i64 r] 31)) := hlk
          clear hlk HT2 HASK2 HMR2 hfp
          cases h5 : (kd != 5) with
          | true =>
            clear hbad
            go_wp2
            go_ret
            exact ⟨by rw [HF.out]; rfl, HMF.out⟩
          | false =>
            rw [h5, Bool.false_or] at hbad
            go_wp2
            go_ret
            exact ⟨by rw [HF.out]; rfl, HMF.out⟩
      | false =>
        have HT3 : Hid (cutS (l.take (k + 1)) = some (nextF fn ⟨kd, p, f, n, d, vr, x, g, r⟩)) := by
          show _ = _
          rw [HT2.out, if_neg (by rw [hbad]; decide)]
        obtain ⟨D, hown, hsp⟩ := HASK2.out
        have HSP := Lib.hid hsp
        have hkey := keyOf_int_mk (P := Tryd.prog) Tryd.underlying3 (wfI hpw)
        have hval := plainElem_int (H := Unit) (P := Tryd.prog) Tryd.underlying3 (wfI hvw)
        clear hsp
        unfold badB at hbad
        dsimp only at hbad
        have HGO : Hid (∀ w1, w1.ownsMap Tryd.prog 3 (plainElem Tryd.prog 3) w.heap.size nn (D.del (.int .i64 p)) → (wr.alloc (.cells #[.int .i64 kd, .int .i64 p, .int .i64 f, .int .u64 n, .int .u64 d, .int .i64 vr, .float .f64 x, .int .u64 g, .int .i64 r] 31)).grownBy w1 (some w.heap.size) → kd ≠ 4 → CutRel w w.heap.size l (k + 1) w1) := fun w1 h1 h2 h4 => by
          refine ⟨_, nn, HT3.out, ⟨_, h1, fun z => ?_⟩, by omega, HMR2.out.trans (Mod.of_grown h2 (fun q e _ => (Option.some.inj e).symm))⟩
          unfold nextF
          by_cases hz : z = p
          · subst hz
            rw [if_pos rfl, if_neg h4]
            exact ⟨has_del_same, atKey_del_same _⟩
          · rw [if_neg hz]
            exact ⟨(has_del_other (litI_ne hz)).trans (HSP.out z).1, (atKey_del_other (litI_ne hz) _).trans (HSP.out z).2⟩
        have HGP : Hid (∀ w1 w2, (wr.alloc (.cells #[.int .i64 kd, .int .i64 p, .int .i64 f, .int .u64 n, .int .u64 d, .int .i64 vr, .float .f64 x, .int .u64 g, .int .i64 r] 31)).grownBy w1 (some w.heap.size) → w2.ownsMap Tryd.prog 3 (plainElem Tryd.prog 3) w.heap.size (nn + 1) ((D.del (.int .i64 p)).put (.int .i64 p) (.lit (.int .i64 vr))) → w1.grownBy w2 (some w.heap.size) → kd = 4 → IsMap D → CutRel w w.heap.size l (k + 1) w2) := fun w1 w2 h1 h2 h3 h4 hD => by
          refine ⟨_, nn + 1, HT3.out, ⟨_, h2, fun z => ?_⟩, by omega, (HMR2.out.trans (Mod.of_grown h1 (fun q e _ => (Option.some.inj e).symm))).trans (Mod.of_grown h3 (fun q e _ => (Option.some.inj e).symm))⟩
          unfold nextF
          by_cases hz : z = p
          · rw [if_pos hz, if_pos h4, hz]
            have hkl : WideAt.IsKeyLit (.int .i64 p) := trivial
            exact ⟨has_put_same (hD.del _) hkl _, atKey_put_same (hD.del _) hkl _ _⟩
          · rw [if_neg hz]
            exact ⟨((has_put_other (litI_ne hz) _).trans (has_del_other (litI_ne hz))).trans (HSP.out z).1, ((atKey_put_other (litI_ne hz) _ _).trans (atKey_del_other (litI_ne hz) _)).trans (HSP.out z).2⟩
        have HISM := Lib.hid hown.isMap
        have hnn : nn < maxLen := by unfold maxLen; omega
        clear HT2 HT3 HMR2 HASK2 HSP
        have HOWN := Lib.hid hown
        clear hown
        cases hfp : fn p with
        | none =>
          rw [hfp] at hlk
          have hlk' : (Instr.lookup 60 (.map (some w.heap.size)) (.int .i64 p) true).run Tryd.prog (wr.alloc (.cells #[.int .i64 kd, .int .i64 p, .int .i64 f, .int .u64 n, .int .u64 d, .int .i64 vr, .float .f64 x, .int .u64 g, .int .i64 r] 31)) = .ok (.tuple #[.int .i64 0, .bool false]) (wr.alloc (.cells #[.int .i64 kd, .int .i64 p, .int .i64 f, .int .u64 n, .int .u64 d, .int .i64 vr, .float .f64 x, .int .u64 g, .int .i64 r] 31)) := hlk
          clear hlk hfp hbad
          go_wp2_with (at_delete; refine wpList_delete_own _ (by rfl) _ _ 60 3 (by rfl) 3 (int_keyed Tryd.underlying3) Tryd.underlying60 (plainElem Tryd.prog 3) w.heap.size nn D (by rfl) HOWN.out _ _ (by rfl) hkey ?_)
          intro w1 ho1 ht1
          have hg1 := ht1.grown
          have hb1 := blk_grown HBLK.out hg1 (fun q e => by have := Option.some.inj e; omega)
          have j0 := (blk_cell hb1 0).trans rfl
          have j1 := (blk_cell hb1 1).trans rfl
          have j5 := (blk_cell hb1 5).trans rfl
          have HG1 := Lib.hid hg1
          clear hg1 hb1 ht1 m0 m1 m5 hlk'
          by_cases h4 : kd = 4
          · have t4 : (kd == 4) = true := beq_iff_eq.2 h4
            go_wp2_with (at_mapUpdate; refine wpList_mapUpdate_own _ (by rfl) _ _ _ 60 (by rfl) 3 3 (int_keyed Tryd.underlying3) Tryd.underlying60 (plainElem Tryd.prog 3) w.heap.size nn (D.del (.int .i64 p)) (by rfl) ho1 hnn _ _ _ (by rfl) (by rfl) hkey _ _ hval ?_)
            intro w2 ho2 hg2
            have HN := Lib.hid (HGP.out w1 w2 HG1.out ho2 hg2 h4 HISM.out)
            clear ho1 ho2 hg2 h4 HGO HGP HG1 HOWN j0 j1 j5
            go_wp2
            go_roundw
            case rel => exact ⟨k + 1, by omega, by go_num, HN⟩
            case measure => simp [intOf]; omega
          · have t4 : (kd == 4) = false := beq_eq_false_iff_ne.2 h4
            have HN := Lib.hid (HGO.out w1 ho1 HG1.out h4)
            clear ho1 h4 HGO HGP HG1 HOWN j1 j5
            go_wp2
            go_roundw
            case rel => exact ⟨k + 1, by omega, by go_num, HN⟩
            case measure => simp [intOf]; omega
        | some u =>
          rw [hfp] at hlk hbad
          dsimp only at hbad
          have hlk' : (Instr.lookup 60 (.map (some w.heap.size)) (.int .i64 p) true).run Tryd.prog (wr.alloc (.cells #[.int .i64 kd, .int .i64 p, .int .i64 f, .int .u64 n, .int .u64 d, .int .i64 vr, .float .f64 x, .int .u64 g, .int .i64 r] 31)) = .ok (.tuple #[.int .i64 u, .bool true]) (wr.alloc (.cells #[.int .i64 kd, .int .i64 p, .int .i64 f, .int .u64 n, .int .u64 d, .int .i64 vr, .float .f64 x, .int .u64 g, .int .i64 r] 31)) := hlk
          obtain ⟨h5, h6⟩ : (kd != 5) = false ∧ (vr != u) = false := by cases hq : (kd != 5) <;> simp_all
          clear hlk hfp hbad
          go_wp2_with (at_delete; refine wpList_delete_own _ (by rfl) _ _ 60 3 (by rfl) 3 (int_keyed Tryd.underlying3) Tryd.underlying60 (plainElem Tryd.prog 3) w.heap.size nn D (by rfl) HOWN.out _ _ (by rfl) hkey ?_)
          intro w1 ho1 ht1
          have hg1 := ht1.grown
          have hb1 := blk_grown HBLK.out hg1 (fun q e => by have := Option.some.inj e; omega)
          have j0 := (blk_cell hb1 0).trans rfl
          have j1 := (blk_cell hb1 1).trans rfl
          have j5 := (blk_cell hb1 5).trans rfl
          have HG1 := Lib.hid hg1
          clear hg1 hb1 ht1 m0 m1 m5 hlk'
          by_cases h4 : kd = 4
          · have t4 : (kd == 4) = true := beq_iff_eq.2 h4
            go_wp2_with (at_mapUpdate; refine wpList_mapUpdate_own _ (by rfl) _ _ _ 60 (by rfl) 3 3 (int_keyed Tryd.underlying3) Tryd.underlying60 (plainElem Tryd.prog 3) w.heap.size nn (D.del (.int .i64 p)) (by rfl) ho1 hnn _ _ _ (by rfl) (by rfl) hkey _ _ hval ?_)
            intro w2 ho2 hg2
            have HN := Lib.hid (HGP.out w1 w2 HG1.out ho2 hg2 h4 HISM.out)
            clear ho1 ho2 hg2 h4 HGO HGP HG1 HOWN j0 j1 j5
            go_wp2
            go_roundw
            case rel => exact ⟨k + 1, by omega, by go_num, HN⟩
            case measure => simp [intOf]; omega
          · have t4 : (kd == 4) = false := beq_eq_false_iff_ne.2 h4
            have HN := Lib.hid (HGO.out w1 ho1 HG1.out h4)
            clear ho1 h4 HGO HGP HG1 HOWN j1 j5
            go_wp2
            go_roundw
            case rel => exact ⟨k + 1, by omega, by go_num, HN⟩
            case measure => simp [intOf]; omega
    · obtain rfl : k = l.length := by omega
      have ti : decide (l.length < l.length) = false := decide_eq_false (by omega)
      rw [List.take_length] at hcs
      have HF : Hid (R = true) := by
        show _ = _
        rw [HR.out]
        unfold cutB
        rw [hcs]
        rfl
      have HMF := Lib.hid (HEND.out _ hmr)
      clear hcs hask hmr hD
      go_wp2
      go_ret
      exact ⟨by rw [HF.out]; rfl, HMF.out⟩
end Go.Proofs.YtlklbdnlpljaiaaDoor
