/-
  FilmSays.
-/
import Derived.Test.YtlklbdnlpljaiaaDoorFmY
import Derived.Test.YtlklbdnlpljaiaaDoorFmP
import Derived.Test.YtlklbdnlpljaiaaDoorFmW
import Derived.Deep.DeepCutAuto
namespace Go.Proofs.YtlklbdnlpljaiaaDoor
open Go.RowKit Go.Shoal

theorem at_nil (p : Int) : atL [] p = [] := rfl
theorem src_pair (w : World) (a b : Nat) : SrcOk (w.alloc (.cells #[.int .u64 a, .int .u64 b] 46)) (.slice (some ⟨w.heap.size, 0, none⟩) 1 1) 1 2 [.int .u64 a, .int .u64 b] :=
  SrcOk.block (blk_new _ _) rfl (fun j u hu => by rw [Nat.zero_add]; simpa using hu) (by simp [Value.oneCell'])
theorem below_cell {w w' : World} {b i : Nat} {u : Value} (h : w.cell? ⟨b, i, none⟩ = some u) (hm : Below w.heap.size w w') : w'.cell? ⟨b, i, none⟩ = some u :=
  (World.cell?_of_block (hm.block b (World.block_lt_of_cell? w _ h))).trans h
/-- What holds while the film is filled. -/
def SL (B : Nat) (w1 : World) (L : List Ev) (p : Int) (all att got : Value) (wr : World) : Prop := ∃ fv, SS B w1 L L (atL L p) (gotL (atL L p)) fv all att got wr
set_option maxRecDepth 100000 in
set_option maxHeartbeats 64000000 in
theorem says_any (v : Value) (l : List Ev) (p kind : Int) (x : Ev) (okx : x.Ok) (w : World) (hz : Evs w v l) (hT : Tab w) :
    Calls Tryd.prog 6 #[v, .int .i64 p, .int .i64 kind, x.agg] w fun e w' => e = .returned (.bool true) ∧ Below w.heap.size w w' := by
  obtain ⟨i0, hii, hz0, hz1, hz2⟩ := info_parts Tryd.infoREv
  obtain ⟨i1, hii1, hy0, hy1, hy2⟩ := info_parts Tryd.infoPair
  have HEI := Lib.hid hz.evIn
  obtain ⟨A0, c0, rfl, hl, hfit, hz⟩ := hz
  unfold maxLen at hl
  have HFIT : Hid (∀ e ∈ l, e.Ok) := fun e he => by
    obtain ⟨i, hi, rfl⟩ := List.getElem_of_mem he
    have := hfit i hi
    rw [List.getD_eq_getElem?_getD, List.getElem?_eq_getElem hi] at this
    exact this
  have HSX : Hid (∀ (e : Ev) W, e.x < B64 → Calls Tryd.prog 14 #[e.agg, x.agg] W fun q w' => q = .returned (.bool (sameE e x)) ∧ Mod (fun _ => False) W w') := fun e W he => fsame_any e x he okx.x W
  have HRX : Hid (∀ (e : Ev) W, e.x < B64 → Calls Tryd.prog 20 #[e.agg, x.agg] W fun q w' => q = .returned (.bool (sameE e x)) ∧ Mod (fun _ => False) W w') := fun e W he => rsameE_any e x he okx.x W
  have HEX : Hid (∀ W, Calls Tryd.prog 18 #[x.agg] W fun q w' => q = .returned x.agg ∧ Mod (fun _ => False) W w') := fun W => event_any x W
  clear hz hfit okx
  obtain ⟨kd', pe', f', n', d', vr', xx', g', r'⟩ := x
  show Calls Tryd.prog 6 #[.slice A0 l.length c0, .int .i64 p, .int .i64 kind, .agg #[.int .i64 kd', .int .i64 pe', .int .i64 f', .int .u64 n', .int .u64 d', .int .i64 vr', .float .f64 xx', .int .u64 g', .int .i64 r']] w _
  have HM0 : Hid (Mod (fun _ => False) w (w.alloc (.cells #[.int .i64 kd', .int .i64 pe', .int .i64 f', .int .u64 n', .int .u64 d', .int .i64 vr', .float .f64 xx', .int .u64 g', .int .i64 r'] 31))) := (Mod.refl _ _).alloc _
  have HA := Lib.hid (awake_any (w.alloc (.cells #[.int .i64 kd', .int .i64 pe', .int .i64 f', .int .u64 n', .int .u64 d', .int .i64 vr', .float .f64 xx', .int .u64 g', .int .i64 r'] 31)) (hT.mod HM0.out (fun h => h)))
  have HX0 : Hid ((w.alloc (.cells #[.int .i64 kd', .int .i64 pe', .int .i64 f', .int .u64 n', .int .u64 d', .int .i64 vr', .float .f64 xx', .int .u64 g', .int .i64 r'] 31)).heap[w.heap.size]? = some (.cells #[.int .i64 kd', .int .i64 pe', .int .i64 f', .int .u64 n', .int .u64 d', .int .i64 vr', .float .f64 xx', .int .u64 g', .int .i64 r'] 31 (0, 0))) := blk_new w _
  have HT : Hid (∀ W, Below w.heap.size w W → Tab W) := fun W hW => hT.mod (Mod.of_below hW) (fun h => h)
  clear hT
  go_enter Tryd.func6, Tryd.ntmps6
  go_wp2_with fail
  refine HA.out.mono ?_
  rintro q w1 ⟨rfl, hm⟩
  have HM : Hid (Mod (fun _ => False) w w1) := HM0.out.trans hm
  have HX1 : Hid (w1.heap[w.heap.size]? = some (.cells #[.int .i64 kd', .int .i64 pe', .int .i64 f', .int .u64 n', .int .u64 d', .int .i64 vr', .float .f64 xx', .int .u64 g', .int .i64 r'] 31 (0, 0))) := hm.blk HX0.out (fun h => h)
  have HXLT : Hid (w.heap.size < w1.heap.size) := blk_lt HX1.out
  clear hm HA HM0 HX0
  by_cases h60 : 60 < l.length
  · have t60 : decide (60 < (l.length : Int)) = true := decide_eq_true (by omega)
    clear h60
    go_wp2
    go_ret
    exact ⟨rfl, HM.out.none_below⟩
  have t60 : decide (60 < (l.length : Int)) = false := decide_eq_false (by omega)
  have hl60 : l.length ≤ 60 := by omega
  clear hl h60
  go_wp2_with fail
  refine (new_any w1).mono ?_
  rintro q w2 ⟨rfl, hw2⟩
  have H0 : Hid (SL w1.heap.size w1 (l.take 0) p (.slice none 0 0) (.slice none 0 0) (.slice none 0 0) w2) := by
    show SL _ _ _ _ _ _ _ _
    rw [hw2]
    exact ⟨_, film_new w1 w1.heap.size (Nat.le_refl _), (Mod.refl _ _).alloc _, Nat.le_refl _, RowOf.nil _ _ _, fun q h => (by cases h), RowOf.nil _ _ _, fun q h => (by cases h), RowOf.nil _ _ _, fun q h => (by cases h), fun q h => (by cases h)⟩
  have HBE : Hid (∀ W, Mod (fun q => w1.heap.size ≤ q) w1 W → Below w.heap.size w W) := fun W hW => by
    have h1 := HM.out
    exact h1.none_below.trans (hW.below (fun i hi h => by have := h1.size; omega) h1.size)
  have HXE : Hid (∀ W, Mod (fun q => w1.heap.size ≤ q) w1 W → W.heap[w.heap.size]? = some (.cells #[.int .i64 kd', .int .i64 pe', .int .i64 f', .int .u64 n', .int .u64 d', .int .i64 vr', .float .f64 xx', .int .u64 g', .int .i64 r'] 31 (0, 0))) := fun W hW => hW.blk HX1.out (fun h => by have := HXLT.out; omega)
  clear hw2
  generalize w1.heap.size = B at *
  obtain ⟨XB, hXB⟩ : ∃ XB, XB = w.heap.size := ⟨_, rfl⟩
  have HXE2 : Hid (∀ W, Mod (fun q => B ≤ q) w1 W → W.heap[XB]? = some (.cells #[.int .i64 kd', .int .i64 pe', .int .i64 f', .int .u64 n', .int .u64 d', .int .i64 vr', .float .f64 xx', .int .u64 g', .int .i64 r'] 31 (0, 0))) := by rw [hXB]; exact HXE.out
  rw [← hXB]
  clear hXB HXE HX1 HXLT
  go_wp2
  go_loopw [10, 11, 12, 13, 14] (fun s1 s2 s3 cn i wr => ∃ (k : Nat) (all att got : Value), k ≤ l.length ∧ i = .int .i64 k ∧ cn = .int .i64 (cntL (l.take k) kind : Nat) ∧ all = s1 ∧ att = s2 ∧ got = s3 ∧ Hid (SL B w1 (l.take k) p all att got wr)) (fun _ _ _ _ i _ => l.length - (intOf i).toNat)
  case atStart => exact ⟨0, _, _, _, Nat.zero_le _, rfl, rfl, rfl, rfl, rfl, H0⟩
  case round =>
    obtain ⟨k, all, att, got, hk, rfl, rfl, rfl, rfl, rfl, hD⟩ := hrel
    by_cases hlt : k < l.length
    · obtain ⟨e, he⟩ : ∃ e, l[k]? = some e := ⟨_, List.getElem?_eq_getElem hlt⟩
      obtain ⟨fv, hSS⟩ := hD.out
      obtain ⟨b, o, rfl, hb, a0, a1, a2, a3, a4, a5, a6, a7, a8⟩ := HEI.out.nine (HBE.out wr hSS.mod) he
      have HHE := Lib.hid he
      have hi : (k : Int) < l.length := by omega
      have hi0 : (0 : Int) ≤ (k : Int) := by omega
      have tk : decide (k < l.length) = true := decide_eq_true hlt
      have hkb : (k : Int) < 60 := by omega
      have heok := HFIT.out e (List.mem_of_getElem? he)
      have HC : Hid (cntL (l.take (k + 1)) kind = if e.kind = kind then cntL (l.take k) kind + 1 else cntL (l.take k) kind) := by
        show _ = _
        rw [take_snocE he, cntL_snoc]
      have hcb : (cntL (l.take k) kind : Int) ≤ 60 := by
        have h1 := cntL_len (l.take k) kind
        rw [List.length_take] at h1
        omega
      have HTE : Hid (l.take (k + 1) = l.take k ++ [e]) := take_snocE he
      have HLT : Hid ((l.take k).length ≤ 60) := by show _ ≤ _; rw [List.length_take]; omega
      obtain ⟨L2, hL2⟩ : ∃ L2, l.take (k + 1) = L2 := ⟨_, rfl⟩
      rw [hL2] at HC HTE
      obtain ⟨CN2, hCN2⟩ : ∃ c, cntL L2 kind = c := ⟨_, rfl⟩
      rw [hCN2] at HC
      have HL2 := Lib.hid hL2
      have HCN2 := Lib.hid hCN2
      clear hL2 hCN2
      generalize cntL (l.take k) kind = CN1 at *
      generalize l.take k = L1 at *
      have HADD0 := Lib.hid (add_sharp B B L1 fv e wr hSS.film (by have := HLT.out; omega))
      have HEV0 : Hid (∀ W, Calls Tryd.prog 18 #[e.agg] W fun q w' => q = .returned e.agg ∧ Mod (fun _ => False) W w') := fun W => event_any e W
      have HSH : Hid (∀ W, Tab W → Calls Tryd.prog 13 #[e.agg] W fun q w' => q = .returned (.string ⟨(textL e).toArray⟩) ∧ Mod (fun _ => False) W w') := fun W hW => by rw [← text_is]; exact shown_any e heok W hW
      have HRS : Hid (∀ W, Calls Tryd.prog 19 #[e.agg] W fun q w' => q = .returned (.string ⟨(textL e).toArray⟩) ∧ Mod (fun _ => False) W w') := fun W => by rw [← text_is]; exact rshown_any e heok W
      have HS1 : Hid (∀ W, Calls Tryd.prog 14 #[e.agg, .agg #[.int .i64 kd', .int .i64 pe', .int .i64 f', .int .u64 n', .int .u64 d', .int .i64 vr', .float .f64 xx', .int .u64 g', .int .i64 r']] W fun q w' => q = .returned (.bool (sameE e ⟨kd', pe', f', n', d', vr', xx', g', r'⟩)) ∧ Mod (fun _ => False) W w') := fun W => HSX.out e W heok.x
      have HS2 : Hid (∀ W, Calls Tryd.prog 20 #[e.agg, .agg #[.int .i64 kd', .int .i64 pe', .int .i64 f', .int .u64 n', .int .u64 d', .int .i64 vr', .float .f64 xx', .int .u64 g', .int .i64 r']] W fun q w' => q = .returned (.bool (sameE e ⟨kd', pe', f', n', d', vr', xx', g', r'⟩)) ∧ Mod (fun _ => False) W w') := fun W => HRX.out e W heok.x
      have HS3 : Hid (∀ W, Calls Tryd.prog 18 #[.agg #[.int .i64 kd', .int .i64 pe', .int .i64 f', .int .u64 n', .int .u64 d', .int .i64 vr', .float .f64 xx', .int .u64 g', .int .i64 r']] W fun q w' => q = .returned (.agg #[.int .i64 kd', .int .i64 pe', .int .i64 f', .int .u64 n', .int .u64 d', .int .i64 vr', .float .f64 xx', .int .u64 g', .int .i64 r']) ∧ Mod (fun _ => False) W w') := HEX.out
      have hf1 := heok.f.1
      have hf2 := heok.f.2
      generalize textL e = te at *
      generalize sameE e ⟨kd', pe', f', n', d', vr', xx', g', r'⟩ = sm at *
      have HAT : Hid (atL L2 p = if e.p = p then atL L1 p ++ [e] else atL L1 p) := by show _ = _; rw [HTE.out, atL_snoc]
      have HGT : Hid (gotL (atL L2 p) = if e.p = p ∧ e.kind = 2 then gotL (atL L1 p) ++ [((max e.frm 0).toNat, e.num)] else gotL (atL L1 p)) := by
        show _ = _
        rw [HAT.out]
        by_cases h1 : e.p = p
        · rw [if_pos h1, gotL_snoc]
          by_cases h2 : e.kind = 2
          · rw [if_pos h2, if_pos ⟨h1, h2⟩]; rfl
          · rw [if_neg h2, if_neg (fun h => h2 h.2)]
        · rw [if_neg h1, if_neg (fun h => h1 h.1)]
      have HLA : Hid ((atL L1 p).length ≤ 60) := Nat.le_trans (atL_len L1 p) HLT.out
      have HLG : Hid ((gotL (atL L1 p)).length ≤ 60) := Nat.le_trans (gotL_len _) HLA.out
      have HSL : Hid (∀ fv a t g W, SS B w1 L2 L2 (atL L2 p) (gotL (atL L2 p)) fv a t g W → SL B w1 L2 p a t g W) := fun fv a t g W h => ⟨fv, h⟩
      generalize gotL (atL L2 p) = G2 at *
      generalize gotL (atL L1 p) = G1 at *
      generalize atL L2 p = T2 at *
      generalize atL L1 p = T1 at *
      obtain ⟨kd, pe, f, n, d, vr, xx, g, r⟩ := e
      have HADD : Hid (Calls Tryd.prog 9 #[.pointer (some ⟨B, 0, none⟩), .agg #[.int .i64 kd, .int .i64 pe, .int .i64 f, .int .u64 n, .int .u64 d, .int .i64 vr, .float .f64 xx, .int .u64 g, .int .i64 r]] wr (AddedS wr B B (L1 ++ [⟨kd, pe, f, n, d, vr, xx, g, r⟩]) fv)) := HADD0.out
      have HEV : Hid (∀ W, Calls Tryd.prog 18 #[.agg #[.int .i64 kd, .int .i64 pe, .int .i64 f, .int .u64 n, .int .u64 d, .int .i64 vr, .float .f64 xx, .int .u64 g, .int .i64 r]] W fun q w' => q = .returned (.agg #[.int .i64 kd, .int .i64 pe, .int .i64 f, .int .u64 n, .int .u64 d, .int .i64 vr, .float .f64 xx, .int .u64 g, .int .i64 r]) ∧ Mod (fun _ => False) W w') := HEV0.out
      dsimp only at a0 a1 a2 a3 a4 a5 a6 a7 a8 hf1 hf2 HC HAT HGT
      have HL9 : Hid (∀ W, Below w.heap.size w W → W.cell? ⟨b, o + k * 9, none⟩ = some (.int .i64 kd) ∧ W.cell? ⟨b, o + k * 9 + 1, none⟩ = some (.int .i64 pe) ∧ W.cell? ⟨b, o + k * 9 + 2, none⟩ = some (.int .i64 f) ∧ W.cell? ⟨b, o + k * 9 + 3, none⟩ = some (.int .u64 n) ∧ W.cell? ⟨b, o + k * 9 + 4, none⟩ = some (.int .u64 d) ∧ W.cell? ⟨b, o + k * 9 + 5, none⟩ = some (.int .i64 vr) ∧ W.cell? ⟨b, o + k * 9 + 6, none⟩ = some (.float .f64 xx) ∧ W.cell? ⟨b, o + k * 9 + 7, none⟩ = some (.int .u64 g) ∧ W.cell? ⟨b, o + k * 9 + 8, none⟩ = some (.int .i64 r)) := fun W hW => by
        obtain ⟨b', o', e', -, h⟩ := HEI.out.nine hW HHE.out
        cases e'
        exact h
      have HSS := Lib.hid hSS
      clear hSS hD he heok HFIT HSX HRX HEX hb hlt
      clear HHE HADD0 HEV0
      go_wp2_with fail
      refine HADD.out.mono ?_
      rintro q wA ⟨rfl, hfA, hmA⟩
      obtain ⟨fv1, hS1⟩ := HSS.out.add (q := .returned (.tuple #[])) ⟨rfl, hfA, hmA⟩
      have HS1' := Lib.hid hS1
      obtain ⟨a0, a1, a2, a3, a4, a5, a6, a7, a8⟩ := HL9.out wA (HBE.out _ hS1.mod)
      clear hfA hmA hS1 HADD HSS
      go_wp2_with fail
      refine (HEV.out wA).mono ?_
      rintro q wE ⟨rfl, hmE⟩
      have HSE := Lib.hid (HS1'.out.quiet hmE)
      clear hmE HS1' HEV a0 a1 a2 a3 a4 a5 a6 a7 a8
      have HXL : Hid (∀ q, all.ownBlock = some q → q < wE.heap.size) := fun q hq => RowOf.lt HSE.out.ra hq
      have HXT : Hid (∀ q, att.ownBlock = some q → q < wE.heap.size) := fun q hq => RowOf.lt HSE.out.rt hq
      have HXG : Hid (∀ q, got.ownBlock = some q → q < wE.heap.size) := fun q hq => RowOf.lt HSE.out.rg hq
      have hblk : (wE.alloc (.cells #[.int .i64 kd, .int .i64 pe, .int .i64 f, .int .u64 n, .int .u64 d, .int .i64 vr, .float .f64 xx, .int .u64 g, .int .i64 r] 44)).heap[wE.heap.size]? = some (.cells #[.int .i64 kd, .int .i64 pe, .int .i64 f, .int .u64 n, .int .u64 d, .int .i64 vr, .float .f64 xx, .int .u64 g, .int .i64 r] 44 (0, 0)) := blk_new _ _
      have HSA := Lib.hid (HSE.out.quiet (((Mod.refl (fun _ => False) wE).alloc (.cells #[.int .i64 kd, .int .i64 pe, .int .i64 f, .int .u64 n, .int .u64 d, .int .i64 vr, .float .f64 xx, .int .u64 g, .int .i64 r] 44)).alloc (.cells #[.int .i64 kd, .int .i64 pe, .int .i64 f, .int .u64 n, .int .u64 d, .int .i64 vr, .float .f64 xx, .int .u64 g, .int .i64 r] 44)))
      have HRA : Hid (RowOf ((wE.alloc (.cells #[.int .i64 kd, .int .i64 pe, .int .i64 f, .int .u64 n, .int .u64 d, .int .i64 vr, .float .f64 xx, .int .u64 g, .int .i64 r] 44)).alloc (.cells #[.int .i64 kd, .int .i64 pe, .int .i64 f, .int .u64 n, .int .u64 d, .int .i64 vr, .float .f64 xx, .int .u64 g, .int .i64 r] 44)) 44 9 all L1.length (evFlat L1)) := HSA.out.ra
      have HSR : Hid (SrcOk ((wE.alloc (.cells #[.int .i64 kd, .int .i64 pe, .int .i64 f, .int .u64 n, .int .u64 d, .int .i64 vr, .float .f64 xx, .int .u64 g, .int .i64 r] 44)).alloc (.cells #[.int .i64 kd, .int .i64 pe, .int .i64 f, .int .u64 n, .int .u64 d, .int .i64 vr, .float .f64 xx, .int .u64 g, .int .i64 r] 44)) (.slice (some ⟨wE.heap.size + 1, 0, none⟩) 1 1) 1 9 [.int .i64 kd, .int .i64 pe, .int .i64 f, .int .u64 n, .int .u64 d, .int .i64 vr, .float .f64 xx, .int .u64 g, .int .i64 r]) := by
        have h := src_nine (wE.alloc (.cells #[.int .i64 kd, .int .i64 pe, .int .i64 f, .int .u64 n, .int .u64 d, .int .i64 vr, .float .f64 xx, .int .u64 g, .int .i64 r] 44)) [.int .i64 kd, .int .i64 pe, .int .i64 f, .int .u64 n, .int .u64 d, .int .i64 vr, .float .f64 xx, .int .u64 g, .int .i64 r] (t := 44) (by simp [Value.oneCell'])
        rw [show (wE.alloc (.cells #[.int .i64 kd, .int .i64 pe, .int .i64 f, .int .u64 n, .int .u64 d, .int .i64 vr, .float .f64 xx, .int .u64 g, .int .i64 r] 44)).heap.size = wE.heap.size + 1 by simp] at h
        exact h
      have HEB : Hid (((wE.alloc (.cells #[.int .i64 kd, .int .i64 pe, .int .i64 f, .int .u64 n, .int .u64 d, .int .i64 vr, .float .f64 xx, .int .u64 g, .int .i64 r] 44)).alloc (.cells #[.int .i64 kd, .int .i64 pe, .int .i64 f, .int .u64 n, .int .u64 d, .int .i64 vr, .float .f64 xx, .int .u64 g, .int .i64 r] 44)).heap[wE.heap.size]? = some (.cells #[.int .i64 kd, .int .i64 pe, .int .i64 f, .int .u64 n, .int .u64 d, .int .i64 vr, .float .f64 xx, .int .u64 g, .int .i64 r] 44 (0, 0))) := blk_alloc hblk _
      have HES := Lib.hid (ev_snoc L1 ⟨kd, pe, f, n, d, vr, xx, g, r⟩)
      obtain ⟨m0, m1, m2, m3, m4, m5, m6, m7, m8⟩ := nine_cells hblk
      clear hblk HSE
      go_wp2_with (at_builtin; refine wpList_append_row (by rfl) _ _ 42 (by rfl) i0 (.agg #[.int .i64 0, .int .i64 0, .int .i64 0, .int .u64 0, .int .u64 0, .int .i64 0, .float .f64 0, .int .u64 0, .int .i64 0]) 72 Tryd.underlying42 hii hz0 hz1 hz2 (by rfl) (by omega) (by rfl) HRA.out (ev_one _) _ 1 [.int .i64 kd, .int .i64 pe, .int .i64 f, .int .u64 n, .int .u64 d, .int .i64 vr, .float .f64 xx, .int .u64 g, .int .i64 r] (by rfl) HSR.out (by have := HLT.out; unfold maxLen; omega) (by have := HLT.out; omega) ?_)
      intro va wa hv1 hv2 hv3
      have hSB := HSA.out.putAll (e := ⟨kd, pe, f, n, d, vr, xx, g, r⟩) hv1 hv2 (by simpa using hv3)
      have HSB : Hid (SS B w1 (L1 ++ [⟨kd, pe, f, n, d, vr, xx, g, r⟩]) (L1 ++ [⟨kd, pe, f, n, d, vr, xx, g, r⟩]) T1 G1 fv1 va att got wa) := hSB
      have HEB2 : Hid (wa.heap[wE.heap.size]? = some (.cells #[.int .i64 kd, .int .i64 pe, .int .i64 f, .int .u64 n, .int .u64 d, .int .i64 vr, .float .f64 xx, .int .u64 g, .int .i64 r] 44 (0, 0))) := blk_row HEB.out hv2 (fun q hq => by have := HXL.out q hq; omega)
      rw [← HTE.out] at HSB
      clear hv1 hv2 hv3 hSB HSA HRA HSR HEB HES m0 m1 m2 m3 m4 m5 m6 m7 m8
      generalize wE.heap.size = X at *
      obtain ⟨m0, m1, m2, m3, m4, m5, m6, m7, m8⟩ := nine_cells HEB2.out
      go_upto_if 49 with (fail)
      go_cut [11, 12] (fun s1 s2 wx => ∃ vt vg : Value, vt = s1 ∧ vg = s2 ∧ Hid (SS B w1 L2 L2 T2 G2 fv1 va vt vg wx ∧ wx.heap[X]? = some (.cells #[.int .i64 kd, .int .i64 pe, .int .i64 f, .int .u64 n, .int .u64 d, .int .i64 vr, .float .f64 xx, .int .u64 g, .int .i64 r] 44 (0, 0))))
      case first =>
        rename_i J0 K0 hJ0 hK0
        have HJ := Lib.hid hJ0
        clear hJ0
        by_cases hp : pe = p
        · have tp : (pe == p) = true := beq_iff_eq.2 hp
          have HAT2 : Hid (T2 = T1 ++ [⟨kd, pe, f, n, d, vr, xx, g, r⟩]) := by show _ = _; rw [HAT.out, if_pos hp]
          have HP := Lib.hid hp
          have HSA := Lib.hid (HSB.out.quiet ((Mod.refl (fun _ => False) wa).alloc (.cells #[.int .i64 kd, .int .i64 pe, .int .i64 f, .int .u64 n, .int .u64 d, .int .i64 vr, .float .f64 xx, .int .u64 g, .int .i64 r] 44)))
          have HRT : Hid (RowOf (wa.alloc (.cells #[.int .i64 kd, .int .i64 pe, .int .i64 f, .int .u64 n, .int .u64 d, .int .i64 vr, .float .f64 xx, .int .u64 g, .int .i64 r] 44)) 44 9 att T1.length (evFlat T1)) := HSA.out.rt
          have HSR : Hid (SrcOk (wa.alloc (.cells #[.int .i64 kd, .int .i64 pe, .int .i64 f, .int .u64 n, .int .u64 d, .int .i64 vr, .float .f64 xx, .int .u64 g, .int .i64 r] 44)) (.slice (some ⟨wa.heap.size, 0, none⟩) 1 1) 1 9 [.int .i64 kd, .int .i64 pe, .int .i64 f, .int .u64 n, .int .u64 d, .int .i64 vr, .float .f64 xx, .int .u64 g, .int .i64 r]) := src_nine wa [.int .i64 kd, .int .i64 pe, .int .i64 f, .int .u64 n, .int .u64 d, .int .i64 vr, .float .f64 xx, .int .u64 g, .int .i64 r] (t := 44) (by simp [Value.oneCell'])
          have HEB : Hid ((wa.alloc (.cells #[.int .i64 kd, .int .i64 pe, .int .i64 f, .int .u64 n, .int .u64 d, .int .i64 vr, .float .f64 xx, .int .u64 g, .int .i64 r] 44)).heap[X]? = some (.cells #[.int .i64 kd, .int .i64 pe, .int .i64 f, .int .u64 n, .int .u64 d, .int .i64 vr, .float .f64 xx, .int .u64 g, .int .i64 r] 44 (0, 0))) := blk_alloc HEB2.out _
          clear hp HSB HEB2 HAT
          go_wp2_with (at_builtin; refine wpList_append_row (by rfl) _ _ 42 (by rfl) i0 (.agg #[.int .i64 0, .int .i64 0, .int .i64 0, .int .u64 0, .int .u64 0, .int .i64 0, .float .f64 0, .int .u64 0, .int .i64 0]) 72 Tryd.underlying42 hii hz0 hz1 hz2 (by rfl) (by omega) (by rfl) HRT.out (ev_one _) _ 1 [.int .i64 kd, .int .i64 pe, .int .i64 f, .int .u64 n, .int .u64 d, .int .i64 vr, .float .f64 xx, .int .u64 g, .int .i64 r] (by rfl) HSR.out (by have := HLA.out; unfold maxLen; omega) (by have := HLA.out; omega) ?_)
          intro vt wt hv1 hv2 hv3
          have hSB := HSA.out.putAt (e := ⟨kd, pe, f, n, d, vr, xx, g, r⟩) hv1 hv2 (by simpa using hv3)
          have HSB : Hid (SS B w1 L2 L2 (T1 ++ [⟨kd, pe, f, n, d, vr, xx, g, r⟩]) G1 fv1 va vt got wt) := hSB
          have HEB2 : Hid (wt.heap[X]? = some (.cells #[.int .i64 kd, .int .i64 pe, .int .i64 f, .int .u64 n, .int .u64 d, .int .i64 vr, .float .f64 xx, .int .u64 g, .int .i64 r] 44 (0, 0))) := blk_row HEB.out hv2 (fun q hq => by have := HXT.out q hq; omega)
          rw [← HAT2.out] at HSB
          clear hv1 hv2 hv3 hSB HSA HRT HSR HEB m0 m1 m2 m3 m4 m5 m6 m7 m8
          obtain ⟨m0, m1, m2, m3, m4, m5, m6, m7, m8⟩ := nine_cells HEB2.out
          by_cases h2 : kd = 2
          · have t2 : (kd == 2) = true := beq_iff_eq.2 h2
            have HG2 : Hid (G2 = G1 ++ [((max f 0).toNat, n)]) := by show _ = _; rw [HGT.out, if_pos ⟨HP.out, h2⟩]
            by_cases hf : 0 < f
            · have tf : decide (0 < f) = true := decide_eq_true hf
              have hmx : IntKind.u64.wrap f = (((max f 0).toNat : Nat) : Int) := by rw [IntKind.wrap_u64]; omega
              generalize (max f 0).toNat = mx at *
              have HSA := Lib.hid (HSB.out.quiet ((Mod.refl (fun _ => False) wt).alloc (.cells #[.int .u64 mx, .int .u64 n] 46)))
              have HRG : Hid (RowOf (wt.alloc (.cells #[.int .u64 mx, .int .u64 n] 46)) 46 2 got G1.length (pairFlat G1)) := HSA.out.rg
              have HSR : Hid (SrcOk (wt.alloc (.cells #[.int .u64 mx, .int .u64 n] 46)) (.slice (some ⟨wt.heap.size, 0, none⟩) 1 1) 1 2 [.int .u64 mx, .int .u64 n]) := src_pair wt mx n
              have HEB : Hid ((wt.alloc (.cells #[.int .u64 mx, .int .u64 n] 46)).heap[X]? = some (.cells #[.int .i64 kd, .int .i64 pe, .int .i64 f, .int .u64 n, .int .u64 d, .int .i64 vr, .float .f64 xx, .int .u64 g, .int .i64 r] 44 (0, 0))) := blk_alloc HEB2.out _
              clear h2 hf HSB HEB2 HGT HC
              go_wp2_with (at_builtin; refine wpList_append_row (by rfl) _ _ 35 (by rfl) i1 (.agg #[.int .u64 0, .int .u64 0]) 16 Tryd.underlying35 hii1 hy0 hy1 hy2 (by rfl) (by omega) (by rfl) HRG.out (pair_one _) _ 1 [.int .u64 mx, .int .u64 n] (by rfl) HSR.out (by have := HLG.out; unfold maxLen; omega) (by have := HLG.out; omega) ?_)
              intro vg wg hv1 hv2 hv3
              have hSB := HSA.out.putGot (x := (mx, n)) hv1 hv2 (by simpa using hv3)
              have HSB : Hid (SS B w1 L2 L2 T2 (G1 ++ [(mx, n)]) fv1 va vt vg wg) := hSB
              have HEB2 : Hid (wg.heap[X]? = some (.cells #[.int .i64 kd, .int .i64 pe, .int .i64 f, .int .u64 n, .int .u64 d, .int .i64 vr, .float .f64 xx, .int .u64 g, .int .i64 r] 44 (0, 0))) := blk_row HEB.out hv2 (fun q hq => by have := HXG.out q hq; omega)
              rw [← HG2.out] at HSB
              clear hv1 hv2 hv3 hSB HSA HRG HSR HEB m0 m1 m2 m3 m4 m5 m6 m7 m8
              go_wp2
              refine Met.intro ?_
              refine HJ.out _ _ ?_
              repeat apply Exists.intro
              refine ⟨?rel, rfl⟩
              case rel => exact ⟨_, _, rfl, rfl, HSB.out, HEB2.out⟩
            · have tf : decide (0 < f) = false := decide_eq_false hf
              have hmx : (max f 0).toNat = 0 := by omega
              rw [hmx] at HG2
              clear hmx
              have HSA := Lib.hid (HSB.out.quiet ((Mod.refl (fun _ => False) wt).alloc (.cells #[.int .u64 (0 : Int), .int .u64 n] 46)))
              have HRG : Hid (RowOf (wt.alloc (.cells #[.int .u64 (0 : Int), .int .u64 n] 46)) 46 2 got G1.length (pairFlat G1)) := HSA.out.rg
              have HSR : Hid (SrcOk (wt.alloc (.cells #[.int .u64 (0 : Int), .int .u64 n] 46)) (.slice (some ⟨wt.heap.size, 0, none⟩) 1 1) 1 2 [.int .u64 (0 : Int), .int .u64 n]) := src_pair wt 0 n
              have HEB : Hid ((wt.alloc (.cells #[.int .u64 (0 : Int), .int .u64 n] 46)).heap[X]? = some (.cells #[.int .i64 kd, .int .i64 pe, .int .i64 f, .int .u64 n, .int .u64 d, .int .i64 vr, .float .f64 xx, .int .u64 g, .int .i64 r] 44 (0, 0))) := blk_alloc HEB2.out _
              clear h2 hf HSB HEB2 HGT HC
              go_wp2_with (at_builtin; refine wpList_append_row (by rfl) _ _ 35 (by rfl) i1 (.agg #[.int .u64 0, .int .u64 0]) 16 Tryd.underlying35 hii1 hy0 hy1 hy2 (by rfl) (by omega) (by rfl) HRG.out (pair_one _) _ 1 [.int .u64 (0 : Int), .int .u64 n] (by rfl) HSR.out (by have := HLG.out; unfold maxLen; omega) (by have := HLG.out; omega) ?_)
              intro vg wg hv1 hv2 hv3
              have hSB := HSA.out.putGot (x := (0, n)) hv1 hv2 (by simpa using hv3)
              have HSB : Hid (SS B w1 L2 L2 T2 (G1 ++ [(0, n)]) fv1 va vt vg wg) := hSB
              have HEB2 : Hid (wg.heap[X]? = some (.cells #[.int .i64 kd, .int .i64 pe, .int .i64 f, .int .u64 n, .int .u64 d, .int .i64 vr, .float .f64 xx, .int .u64 g, .int .i64 r] 44 (0, 0))) := blk_row HEB.out hv2 (fun q hq => by have := HXG.out q hq; omega)
              rw [← HG2.out] at HSB
              clear hv1 hv2 hv3 hSB HSA HRG HSR HEB m0 m1 m2 m3 m4 m5 m6 m7 m8
              go_wp2
              refine Met.intro ?_
              refine HJ.out _ _ ?_
              repeat apply Exists.intro
              refine ⟨?rel, rfl⟩
              case rel => exact ⟨_, _, rfl, rfl, HSB.out, HEB2.out⟩
          · have t2 : (kd == 2) = false := beq_eq_false_iff_ne.2 h2
            have HG2 : Hid (G1 = G2) := by show _ = _; rw [HGT.out, if_neg (fun h => h2 h.2)]
            rw [HG2.out] at HSB
            clear h2 HGT HG2 HC
            go_wp2
            refine Met.intro ?_
            refine HJ.out _ _ ?_
            repeat apply Exists.intro
            refine ⟨?rel, rfl⟩
            case rel => exact ⟨_, _, rfl, rfl, HSB.out, HEB2.out⟩
        · have tp : (pe == p) = false := beq_eq_false_iff_ne.2 hp
          have HG2 : Hid (G1 = G2) := by show _ = _; rw [HGT.out, if_neg (fun h => hp h.1)]
          have HT2 : Hid (T1 = T2) := by show _ = _; rw [HAT.out, if_neg hp]
          rw [HG2.out, HT2.out] at HSB
          clear hp HGT HG2 HT2 HAT HC
          go_wp2
          refine Met.intro ?_
          refine HJ.out _ _ ?_
          repeat apply Exists.intro
          refine ⟨?rel, rfl⟩
          case rel => exact ⟨_, _, rfl, rfl, HSB.out, HEB2.out⟩
      case rest =>
        obtain ⟨vt, vg, rfl, rfl, HX⟩ := hcut
        clear HSB HEB2 m0 m1 m2 m3 m4 m5 m6 m7 m8 HAT HGT HLA HLG HXL HXT HXG HTE HLT
        have HSB := Lib.hid HX.out.1
        have HEB2 := Lib.hid HX.out.2
        clear HX
        obtain ⟨m0, m1, m2, m3, m4, m5, m6, m7, m8⟩ := nine_cells HEB2.out
        rename World => wb
        go_upto_if 73 with (fail)
        go_cut [13] (fun c wx => c = .int .i64 (CN2 : Nat) ∧ wx = wb)
        case first =>
          rename_i J0 K0 hJ0 hK0
          have HJ := Lib.hid hJ0
          clear hJ0
          by_cases hk2 : kd = kind
          · have tk2 : (kd == kind) = true := beq_iff_eq.2 hk2
            have HC2 : Hid (CN2 = CN1 + 1) := by show _ = _; rw [HC.out, if_pos hk2]
            clear hk2 HC
            go_wp2
            refine Met.intro ?_
            refine HJ.out _ _ ?_
            repeat apply Exists.intro
            refine ⟨?rel, rfl⟩
            case rel => exact ⟨by rw [HC2.out]; go_num, rfl⟩
          · have tk2 : (kd == kind) = false := beq_eq_false_iff_ne.2 hk2
            have HC2 : Hid (CN2 = CN1) := by show _ = _; rw [HC.out, if_neg hk2]
            clear hk2 HC
            go_wp2
            refine Met.intro ?_
            refine HJ.out _ _ ?_
            repeat apply Exists.intro
            refine ⟨?rel, rfl⟩
            case rel => exact ⟨by rw [HC2.out], rfl⟩
        case rest =>
          obtain ⟨rfl, hwb⟩ := hcut
          subst hwb
          have HBW : Hid (Below w.heap.size w wc) := HBE.out _ HSB.out.mod
          obtain ⟨a0, a1, a2, a3, a4, a5, a6, a7, a8⟩ := HL9.out wc HBW.out
          obtain ⟨x0, x1, x2, x3, x4, x5, x6, x7, x8⟩ := nine_cells (HXE2.out wc HSB.out.mod)
          have HMK : Hid (∀ W, Mod (fun _ => False) wc W → (fun W => W.cell? ⟨b, o + k * 9, none⟩ = some (.int .i64 kd) ∧ W.cell? ⟨b, o + k * 9 + 1, none⟩ = some (.int .i64 pe) ∧ W.cell? ⟨b, o + k * 9 + 2, none⟩ = some (.int .i64 f) ∧ W.cell? ⟨b, o + k * 9 + 3, none⟩ = some (.int .u64 n) ∧ W.cell? ⟨b, o + k * 9 + 4, none⟩ = some (.int .u64 d) ∧ W.cell? ⟨b, o + k * 9 + 5, none⟩ = some (.int .i64 vr) ∧ W.cell? ⟨b, o + k * 9 + 6, none⟩ = some (.float .f64 xx) ∧ W.cell? ⟨b, o + k * 9 + 7, none⟩ = some (.int .u64 g) ∧ W.cell? ⟨b, o + k * 9 + 8, none⟩ = some (.int .i64 r) ∧ W.cell? ⟨X, 0, none⟩ = some (.int .i64 kd) ∧ W.cell? ⟨X, 1, none⟩ = some (.int .i64 pe) ∧ W.cell? ⟨X, 2, none⟩ = some (.int .i64 f) ∧ W.cell? ⟨X, 3, none⟩ = some (.int .u64 n) ∧ W.cell? ⟨X, 4, none⟩ = some (.int .u64 d) ∧ W.cell? ⟨X, 5, none⟩ = some (.int .i64 vr) ∧ W.cell? ⟨X, 6, none⟩ = some (.float .f64 xx) ∧ W.cell? ⟨X, 7, none⟩ = some (.int .u64 g) ∧ W.cell? ⟨X, 8, none⟩ = some (.int .i64 r) ∧ W.cell? ⟨XB, 0, none⟩ = some (.int .i64 kd') ∧ W.cell? ⟨XB, 1, none⟩ = some (.int .i64 pe') ∧ W.cell? ⟨XB, 2, none⟩ = some (.int .i64 f') ∧ W.cell? ⟨XB, 3, none⟩ = some (.int .u64 n') ∧ W.cell? ⟨XB, 4, none⟩ = some (.int .u64 d') ∧ W.cell? ⟨XB, 5, none⟩ = some (.int .i64 vr') ∧ W.cell? ⟨XB, 6, none⟩ = some (.float .f64 xx') ∧ W.cell? ⟨XB, 7, none⟩ = some (.int .u64 g') ∧ W.cell? ⟨XB, 8, none⟩ = some (.int .i64 r') ∧ Mod (fun _ => False) wc W) W) := fun W hW => ⟨cell_mod a0 hW, cell_mod a1 hW, cell_mod a2 hW, cell_mod a3 hW, cell_mod a4 hW, cell_mod a5 hW, cell_mod a6 hW, cell_mod a7 hW, cell_mod a8 hW, cell_mod m0 hW, cell_mod m1 hW, cell_mod m2 hW, cell_mod m3 hW, cell_mod m4 hW, cell_mod m5 hW, cell_mod m6 hW, cell_mod m7 hW, cell_mod m8 hW, cell_mod x0 hW, cell_mod x1 hW, cell_mod x2 hW, cell_mod x3 hW, cell_mod x4 hW, cell_mod x5 hW, cell_mod x6 hW, cell_mod x7 hW, cell_mod x8 hW, hW⟩
          have HMO : Hid (∀ W, (fun W => W.cell? ⟨b, o + k * 9, none⟩ = some (.int .i64 kd) ∧ W.cell? ⟨b, o + k * 9 + 1, none⟩ = some (.int .i64 pe) ∧ W.cell? ⟨b, o + k * 9 + 2, none⟩ = some (.int .i64 f) ∧ W.cell? ⟨b, o + k * 9 + 3, none⟩ = some (.int .u64 n) ∧ W.cell? ⟨b, o + k * 9 + 4, none⟩ = some (.int .u64 d) ∧ W.cell? ⟨b, o + k * 9 + 5, none⟩ = some (.int .i64 vr) ∧ W.cell? ⟨b, o + k * 9 + 6, none⟩ = some (.float .f64 xx) ∧ W.cell? ⟨b, o + k * 9 + 7, none⟩ = some (.int .u64 g) ∧ W.cell? ⟨b, o + k * 9 + 8, none⟩ = some (.int .i64 r) ∧ W.cell? ⟨X, 0, none⟩ = some (.int .i64 kd) ∧ W.cell? ⟨X, 1, none⟩ = some (.int .i64 pe) ∧ W.cell? ⟨X, 2, none⟩ = some (.int .i64 f) ∧ W.cell? ⟨X, 3, none⟩ = some (.int .u64 n) ∧ W.cell? ⟨X, 4, none⟩ = some (.int .u64 d) ∧ W.cell? ⟨X, 5, none⟩ = some (.int .i64 vr) ∧ W.cell? ⟨X, 6, none⟩ = some (.float .f64 xx) ∧ W.cell? ⟨X, 7, none⟩ = some (.int .u64 g) ∧ W.cell? ⟨X, 8, none⟩ = some (.int .i64 r) ∧ W.cell? ⟨XB, 0, none⟩ = some (.int .i64 kd') ∧ W.cell? ⟨XB, 1, none⟩ = some (.int .i64 pe') ∧ W.cell? ⟨XB, 2, none⟩ = some (.int .i64 f') ∧ W.cell? ⟨XB, 3, none⟩ = some (.int .u64 n') ∧ W.cell? ⟨XB, 4, none⟩ = some (.int .u64 d') ∧ W.cell? ⟨XB, 5, none⟩ = some (.int .i64 vr') ∧ W.cell? ⟨XB, 6, none⟩ = some (.float .f64 xx') ∧ W.cell? ⟨XB, 7, none⟩ = some (.int .u64 g') ∧ W.cell? ⟨XB, 8, none⟩ = some (.int .i64 r') ∧ Mod (fun _ => False) wc W) W → Mod (fun _ => False) wc W) := fun W hS => hS.2.2.2.2.2.2.2.2.2.2.2.2.2.2.2.2.2.2.2.2.2.2.2.2.2.2.2
          have HTW : Hid (∀ W, (fun W => W.cell? ⟨b, o + k * 9, none⟩ = some (.int .i64 kd) ∧ W.cell? ⟨b, o + k * 9 + 1, none⟩ = some (.int .i64 pe) ∧ W.cell? ⟨b, o + k * 9 + 2, none⟩ = some (.int .i64 f) ∧ W.cell? ⟨b, o + k * 9 + 3, none⟩ = some (.int .u64 n) ∧ W.cell? ⟨b, o + k * 9 + 4, none⟩ = some (.int .u64 d) ∧ W.cell? ⟨b, o + k * 9 + 5, none⟩ = some (.int .i64 vr) ∧ W.cell? ⟨b, o + k * 9 + 6, none⟩ = some (.float .f64 xx) ∧ W.cell? ⟨b, o + k * 9 + 7, none⟩ = some (.int .u64 g) ∧ W.cell? ⟨b, o + k * 9 + 8, none⟩ = some (.int .i64 r) ∧ W.cell? ⟨X, 0, none⟩ = some (.int .i64 kd) ∧ W.cell? ⟨X, 1, none⟩ = some (.int .i64 pe) ∧ W.cell? ⟨X, 2, none⟩ = some (.int .i64 f) ∧ W.cell? ⟨X, 3, none⟩ = some (.int .u64 n) ∧ W.cell? ⟨X, 4, none⟩ = some (.int .u64 d) ∧ W.cell? ⟨X, 5, none⟩ = some (.int .i64 vr) ∧ W.cell? ⟨X, 6, none⟩ = some (.float .f64 xx) ∧ W.cell? ⟨X, 7, none⟩ = some (.int .u64 g) ∧ W.cell? ⟨X, 8, none⟩ = some (.int .i64 r) ∧ W.cell? ⟨XB, 0, none⟩ = some (.int .i64 kd') ∧ W.cell? ⟨XB, 1, none⟩ = some (.int .i64 pe') ∧ W.cell? ⟨XB, 2, none⟩ = some (.int .i64 f') ∧ W.cell? ⟨XB, 3, none⟩ = some (.int .u64 n') ∧ W.cell? ⟨XB, 4, none⟩ = some (.int .u64 d') ∧ W.cell? ⟨XB, 5, none⟩ = some (.int .i64 vr') ∧ W.cell? ⟨XB, 6, none⟩ = some (.float .f64 xx') ∧ W.cell? ⟨XB, 7, none⟩ = some (.int .u64 g') ∧ W.cell? ⟨XB, 8, none⟩ = some (.int .i64 r') ∧ Mod (fun _ => False) wc W) W → Tab W) := fun W hS => HT.out W (HBW.out.trans ((HMO.out W hS).below (fun _ _ h => h) HBW.out.size))
          have C1 : Hid (∀ W, (fun W => W.cell? ⟨b, o + k * 9, none⟩ = some (.int .i64 kd) ∧ W.cell? ⟨b, o + k * 9 + 1, none⟩ = some (.int .i64 pe) ∧ W.cell? ⟨b, o + k * 9 + 2, none⟩ = some (.int .i64 f) ∧ W.cell? ⟨b, o + k * 9 + 3, none⟩ = some (.int .u64 n) ∧ W.cell? ⟨b, o + k * 9 + 4, none⟩ = some (.int .u64 d) ∧ W.cell? ⟨b, o + k * 9 + 5, none⟩ = some (.int .i64 vr) ∧ W.cell? ⟨b, o + k * 9 + 6, none⟩ = some (.float .f64 xx) ∧ W.cell? ⟨b, o + k * 9 + 7, none⟩ = some (.int .u64 g) ∧ W.cell? ⟨b, o + k * 9 + 8, none⟩ = some (.int .i64 r) ∧ W.cell? ⟨X, 0, none⟩ = some (.int .i64 kd) ∧ W.cell? ⟨X, 1, none⟩ = some (.int .i64 pe) ∧ W.cell? ⟨X, 2, none⟩ = some (.int .i64 f) ∧ W.cell? ⟨X, 3, none⟩ = some (.int .u64 n) ∧ W.cell? ⟨X, 4, none⟩ = some (.int .u64 d) ∧ W.cell? ⟨X, 5, none⟩ = some (.int .i64 vr) ∧ W.cell? ⟨X, 6, none⟩ = some (.float .f64 xx) ∧ W.cell? ⟨X, 7, none⟩ = some (.int .u64 g) ∧ W.cell? ⟨X, 8, none⟩ = some (.int .i64 r) ∧ W.cell? ⟨XB, 0, none⟩ = some (.int .i64 kd') ∧ W.cell? ⟨XB, 1, none⟩ = some (.int .i64 pe') ∧ W.cell? ⟨XB, 2, none⟩ = some (.int .i64 f') ∧ W.cell? ⟨XB, 3, none⟩ = some (.int .u64 n') ∧ W.cell? ⟨XB, 4, none⟩ = some (.int .u64 d') ∧ W.cell? ⟨XB, 5, none⟩ = some (.int .i64 vr') ∧ W.cell? ⟨XB, 6, none⟩ = some (.float .f64 xx') ∧ W.cell? ⟨XB, 7, none⟩ = some (.int .u64 g') ∧ W.cell? ⟨XB, 8, none⟩ = some (.int .i64 r') ∧ Mod (fun _ => False) wc W) W → Calls Tryd.prog 13 #[.agg #[.int .i64 kd, .int .i64 pe, .int .i64 f, .int .u64 n, .int .u64 d, .int .i64 vr, .float .f64 xx, .int .u64 g, .int .i64 r]] W fun q w' => q = .returned (.string ⟨te.toArray⟩) ∧ (fun W => W.cell? ⟨b, o + k * 9, none⟩ = some (.int .i64 kd) ∧ W.cell? ⟨b, o + k * 9 + 1, none⟩ = some (.int .i64 pe) ∧ W.cell? ⟨b, o + k * 9 + 2, none⟩ = some (.int .i64 f) ∧ W.cell? ⟨b, o + k * 9 + 3, none⟩ = some (.int .u64 n) ∧ W.cell? ⟨b, o + k * 9 + 4, none⟩ = some (.int .u64 d) ∧ W.cell? ⟨b, o + k * 9 + 5, none⟩ = some (.int .i64 vr) ∧ W.cell? ⟨b, o + k * 9 + 6, none⟩ = some (.float .f64 xx) ∧ W.cell? ⟨b, o + k * 9 + 7, none⟩ = some (.int .u64 g) ∧ W.cell? ⟨b, o + k * 9 + 8, none⟩ = some (.int .i64 r) ∧ W.cell? ⟨X, 0, none⟩ = some (.int .i64 kd) ∧ W.cell? ⟨X, 1, none⟩ = some (.int .i64 pe) ∧ W.cell? ⟨X, 2, none⟩ = some (.int .i64 f) ∧ W.cell? ⟨X, 3, none⟩ = some (.int .u64 n) ∧ W.cell? ⟨X, 4, none⟩ = some (.int .u64 d) ∧ W.cell? ⟨X, 5, none⟩ = some (.int .i64 vr) ∧ W.cell? ⟨X, 6, none⟩ = some (.float .f64 xx) ∧ W.cell? ⟨X, 7, none⟩ = some (.int .u64 g) ∧ W.cell? ⟨X, 8, none⟩ = some (.int .i64 r) ∧ W.cell? ⟨XB, 0, none⟩ = some (.int .i64 kd') ∧ W.cell? ⟨XB, 1, none⟩ = some (.int .i64 pe') ∧ W.cell? ⟨XB, 2, none⟩ = some (.int .i64 f') ∧ W.cell? ⟨XB, 3, none⟩ = some (.int .u64 n') ∧ W.cell? ⟨XB, 4, none⟩ = some (.int .u64 d') ∧ W.cell? ⟨XB, 5, none⟩ = some (.int .i64 vr') ∧ W.cell? ⟨XB, 6, none⟩ = some (.float .f64 xx') ∧ W.cell? ⟨XB, 7, none⟩ = some (.int .u64 g') ∧ W.cell? ⟨XB, 8, none⟩ = some (.int .i64 r') ∧ Mod (fun _ => False) wc W) w') := fun W hS => (HSH.out W (HTW.out W hS)).mono fun _ w' ⟨h, hm⟩ => ⟨h, HMK.out w' ((HMO.out W hS).trans hm)⟩
          have C2 : Hid (∀ W, (fun W => W.cell? ⟨b, o + k * 9, none⟩ = some (.int .i64 kd) ∧ W.cell? ⟨b, o + k * 9 + 1, none⟩ = some (.int .i64 pe) ∧ W.cell? ⟨b, o + k * 9 + 2, none⟩ = some (.int .i64 f) ∧ W.cell? ⟨b, o + k * 9 + 3, none⟩ = some (.int .u64 n) ∧ W.cell? ⟨b, o + k * 9 + 4, none⟩ = some (.int .u64 d) ∧ W.cell? ⟨b, o + k * 9 + 5, none⟩ = some (.int .i64 vr) ∧ W.cell? ⟨b, o + k * 9 + 6, none⟩ = some (.float .f64 xx) ∧ W.cell? ⟨b, o + k * 9 + 7, none⟩ = some (.int .u64 g) ∧ W.cell? ⟨b, o + k * 9 + 8, none⟩ = some (.int .i64 r) ∧ W.cell? ⟨X, 0, none⟩ = some (.int .i64 kd) ∧ W.cell? ⟨X, 1, none⟩ = some (.int .i64 pe) ∧ W.cell? ⟨X, 2, none⟩ = some (.int .i64 f) ∧ W.cell? ⟨X, 3, none⟩ = some (.int .u64 n) ∧ W.cell? ⟨X, 4, none⟩ = some (.int .u64 d) ∧ W.cell? ⟨X, 5, none⟩ = some (.int .i64 vr) ∧ W.cell? ⟨X, 6, none⟩ = some (.float .f64 xx) ∧ W.cell? ⟨X, 7, none⟩ = some (.int .u64 g) ∧ W.cell? ⟨X, 8, none⟩ = some (.int .i64 r) ∧ W.cell? ⟨XB, 0, none⟩ = some (.int .i64 kd') ∧ W.cell? ⟨XB, 1, none⟩ = some (.int .i64 pe') ∧ W.cell? ⟨XB, 2, none⟩ = some (.int .i64 f') ∧ W.cell? ⟨XB, 3, none⟩ = some (.int .u64 n') ∧ W.cell? ⟨XB, 4, none⟩ = some (.int .u64 d') ∧ W.cell? ⟨XB, 5, none⟩ = some (.int .i64 vr') ∧ W.cell? ⟨XB, 6, none⟩ = some (.float .f64 xx') ∧ W.cell? ⟨XB, 7, none⟩ = some (.int .u64 g') ∧ W.cell? ⟨XB, 8, none⟩ = some (.int .i64 r') ∧ Mod (fun _ => False) wc W) W → Calls Tryd.prog 19 #[.agg #[.int .i64 kd, .int .i64 pe, .int .i64 f, .int .u64 n, .int .u64 d, .int .i64 vr, .float .f64 xx, .int .u64 g, .int .i64 r]] W fun q w' => q = .returned (.string ⟨te.toArray⟩) ∧ (fun W => W.cell? ⟨b, o + k * 9, none⟩ = some (.int .i64 kd) ∧ W.cell? ⟨b, o + k * 9 + 1, none⟩ = some (.int .i64 pe) ∧ W.cell? ⟨b, o + k * 9 + 2, none⟩ = some (.int .i64 f) ∧ W.cell? ⟨b, o + k * 9 + 3, none⟩ = some (.int .u64 n) ∧ W.cell? ⟨b, o + k * 9 + 4, none⟩ = some (.int .u64 d) ∧ W.cell? ⟨b, o + k * 9 + 5, none⟩ = some (.int .i64 vr) ∧ W.cell? ⟨b, o + k * 9 + 6, none⟩ = some (.float .f64 xx) ∧ W.cell? ⟨b, o + k * 9 + 7, none⟩ = some (.int .u64 g) ∧ W.cell? ⟨b, o + k * 9 + 8, none⟩ = some (.int .i64 r) ∧ W.cell? ⟨X, 0, none⟩ = some (.int .i64 kd) ∧ W.cell? ⟨X, 1, none⟩ = some (.int .i64 pe) ∧ W.cell? ⟨X, 2, none⟩ = some (.int .i64 f) ∧ W.cell? ⟨X, 3, none⟩ = some (.int .u64 n) ∧ W.cell? ⟨X, 4, none⟩ = some (.int .u64 d) ∧ W.cell? ⟨X, 5, none⟩ = some (.int .i64 vr) ∧ W.cell? ⟨X, 6, none⟩ = some (.float .f64 xx) ∧ W.cell? ⟨X, 7, none⟩ = some (.int .u64 g) ∧ W.cell? ⟨X, 8, none⟩ = some (.int .i64 r) ∧ W.cell? ⟨XB, 0, none⟩ = some (.int .i64 kd') ∧ W.cell? ⟨XB, 1, none⟩ = some (.int .i64 pe') ∧ W.cell? ⟨XB, 2, none⟩ = some (.int .i64 f') ∧ W.cell? ⟨XB, 3, none⟩ = some (.int .u64 n') ∧ W.cell? ⟨XB, 4, none⟩ = some (.int .u64 d') ∧ W.cell? ⟨XB, 5, none⟩ = some (.int .i64 vr') ∧ W.cell? ⟨XB, 6, none⟩ = some (.float .f64 xx') ∧ W.cell? ⟨XB, 7, none⟩ = some (.int .u64 g') ∧ W.cell? ⟨XB, 8, none⟩ = some (.int .i64 r') ∧ Mod (fun _ => False) wc W) w') := fun W hS => (HRS.out W).mono fun _ w' ⟨h, hm⟩ => ⟨h, HMK.out w' ((HMO.out W hS).trans hm)⟩
          have C3 : Hid (∀ W, (fun W => W.cell? ⟨b, o + k * 9, none⟩ = some (.int .i64 kd) ∧ W.cell? ⟨b, o + k * 9 + 1, none⟩ = some (.int .i64 pe) ∧ W.cell? ⟨b, o + k * 9 + 2, none⟩ = some (.int .i64 f) ∧ W.cell? ⟨b, o + k * 9 + 3, none⟩ = some (.int .u64 n) ∧ W.cell? ⟨b, o + k * 9 + 4, none⟩ = some (.int .u64 d) ∧ W.cell? ⟨b, o + k * 9 + 5, none⟩ = some (.int .i64 vr) ∧ W.cell? ⟨b, o + k * 9 + 6, none⟩ = some (.float .f64 xx) ∧ W.cell? ⟨b, o + k * 9 + 7, none⟩ = some (.int .u64 g) ∧ W.cell? ⟨b, o + k * 9 + 8, none⟩ = some (.int .i64 r) ∧ W.cell? ⟨X, 0, none⟩ = some (.int .i64 kd) ∧ W.cell? ⟨X, 1, none⟩ = some (.int .i64 pe) ∧ W.cell? ⟨X, 2, none⟩ = some (.int .i64 f) ∧ W.cell? ⟨X, 3, none⟩ = some (.int .u64 n) ∧ W.cell? ⟨X, 4, none⟩ = some (.int .u64 d) ∧ W.cell? ⟨X, 5, none⟩ = some (.int .i64 vr) ∧ W.cell? ⟨X, 6, none⟩ = some (.float .f64 xx) ∧ W.cell? ⟨X, 7, none⟩ = some (.int .u64 g) ∧ W.cell? ⟨X, 8, none⟩ = some (.int .i64 r) ∧ W.cell? ⟨XB, 0, none⟩ = some (.int .i64 kd') ∧ W.cell? ⟨XB, 1, none⟩ = some (.int .i64 pe') ∧ W.cell? ⟨XB, 2, none⟩ = some (.int .i64 f') ∧ W.cell? ⟨XB, 3, none⟩ = some (.int .u64 n') ∧ W.cell? ⟨XB, 4, none⟩ = some (.int .u64 d') ∧ W.cell? ⟨XB, 5, none⟩ = some (.int .i64 vr') ∧ W.cell? ⟨XB, 6, none⟩ = some (.float .f64 xx') ∧ W.cell? ⟨XB, 7, none⟩ = some (.int .u64 g') ∧ W.cell? ⟨XB, 8, none⟩ = some (.int .i64 r') ∧ Mod (fun _ => False) wc W) W → Calls Tryd.prog 14 #[.agg #[.int .i64 kd, .int .i64 pe, .int .i64 f, .int .u64 n, .int .u64 d, .int .i64 vr, .float .f64 xx, .int .u64 g, .int .i64 r], .agg #[.int .i64 kd', .int .i64 pe', .int .i64 f', .int .u64 n', .int .u64 d', .int .i64 vr', .float .f64 xx', .int .u64 g', .int .i64 r']] W fun q w' => q = .returned (.bool sm) ∧ (fun W => W.cell? ⟨b, o + k * 9, none⟩ = some (.int .i64 kd) ∧ W.cell? ⟨b, o + k * 9 + 1, none⟩ = some (.int .i64 pe) ∧ W.cell? ⟨b, o + k * 9 + 2, none⟩ = some (.int .i64 f) ∧ W.cell? ⟨b, o + k * 9 + 3, none⟩ = some (.int .u64 n) ∧ W.cell? ⟨b, o + k * 9 + 4, none⟩ = some (.int .u64 d) ∧ W.cell? ⟨b, o + k * 9 + 5, none⟩ = some (.int .i64 vr) ∧ W.cell? ⟨b, o + k * 9 + 6, none⟩ = some (.float .f64 xx) ∧ W.cell? ⟨b, o + k * 9 + 7, none⟩ = some (.int .u64 g) ∧ W.cell? ⟨b, o + k * 9 + 8, none⟩ = some (.int .i64 r) ∧ W.cell? ⟨X, 0, none⟩ = some (.int .i64 kd) ∧ W.cell? ⟨X, 1, none⟩ = some (.int .i64 pe) ∧ W.cell? ⟨X, 2, none⟩ = some (.int .i64 f) ∧ W.cell? ⟨X, 3, none⟩ = some (.int .u64 n) ∧ W.cell? ⟨X, 4, none⟩ = some (.int .u64 d) ∧ W.cell? ⟨X, 5, none⟩ = some (.int .i64 vr) ∧ W.cell? ⟨X, 6, none⟩ = some (.float .f64 xx) ∧ W.cell? ⟨X, 7, none⟩ = some (.int .u64 g) ∧ W.cell? ⟨X, 8, none⟩ = some (.int .i64 r) ∧ W.cell? ⟨XB, 0, none⟩ = some (.int .i64 kd') ∧ W.cell? ⟨XB, 1, none⟩ = some (.int .i64 pe') ∧ W.cell? ⟨XB, 2, none⟩ = some (.int .i64 f') ∧ W.cell? ⟨XB, 3, none⟩ = some (.int .u64 n') ∧ W.cell? ⟨XB, 4, none⟩ = some (.int .u64 d') ∧ W.cell? ⟨XB, 5, none⟩ = some (.int .i64 vr') ∧ W.cell? ⟨XB, 6, none⟩ = some (.float .f64 xx') ∧ W.cell? ⟨XB, 7, none⟩ = some (.int .u64 g') ∧ W.cell? ⟨XB, 8, none⟩ = some (.int .i64 r') ∧ Mod (fun _ => False) wc W) w') := fun W hS => (HS1.out W).mono fun _ w' ⟨h, hm⟩ => ⟨h, HMK.out w' ((HMO.out W hS).trans hm)⟩
          have C4 : Hid (∀ W, (fun W => W.cell? ⟨b, o + k * 9, none⟩ = some (.int .i64 kd) ∧ W.cell? ⟨b, o + k * 9 + 1, none⟩ = some (.int .i64 pe) ∧ W.cell? ⟨b, o + k * 9 + 2, none⟩ = some (.int .i64 f) ∧ W.cell? ⟨b, o + k * 9 + 3, none⟩ = some (.int .u64 n) ∧ W.cell? ⟨b, o + k * 9 + 4, none⟩ = some (.int .u64 d) ∧ W.cell? ⟨b, o + k * 9 + 5, none⟩ = some (.int .i64 vr) ∧ W.cell? ⟨b, o + k * 9 + 6, none⟩ = some (.float .f64 xx) ∧ W.cell? ⟨b, o + k * 9 + 7, none⟩ = some (.int .u64 g) ∧ W.cell? ⟨b, o + k * 9 + 8, none⟩ = some (.int .i64 r) ∧ W.cell? ⟨X, 0, none⟩ = some (.int .i64 kd) ∧ W.cell? ⟨X, 1, none⟩ = some (.int .i64 pe) ∧ W.cell? ⟨X, 2, none⟩ = some (.int .i64 f) ∧ W.cell? ⟨X, 3, none⟩ = some (.int .u64 n) ∧ W.cell? ⟨X, 4, none⟩ = some (.int .u64 d) ∧ W.cell? ⟨X, 5, none⟩ = some (.int .i64 vr) ∧ W.cell? ⟨X, 6, none⟩ = some (.float .f64 xx) ∧ W.cell? ⟨X, 7, none⟩ = some (.int .u64 g) ∧ W.cell? ⟨X, 8, none⟩ = some (.int .i64 r) ∧ W.cell? ⟨XB, 0, none⟩ = some (.int .i64 kd') ∧ W.cell? ⟨XB, 1, none⟩ = some (.int .i64 pe') ∧ W.cell? ⟨XB, 2, none⟩ = some (.int .i64 f') ∧ W.cell? ⟨XB, 3, none⟩ = some (.int .u64 n') ∧ W.cell? ⟨XB, 4, none⟩ = some (.int .u64 d') ∧ W.cell? ⟨XB, 5, none⟩ = some (.int .i64 vr') ∧ W.cell? ⟨XB, 6, none⟩ = some (.float .f64 xx') ∧ W.cell? ⟨XB, 7, none⟩ = some (.int .u64 g') ∧ W.cell? ⟨XB, 8, none⟩ = some (.int .i64 r') ∧ Mod (fun _ => False) wc W) W → Calls Tryd.prog 18 #[.agg #[.int .i64 kd', .int .i64 pe', .int .i64 f', .int .u64 n', .int .u64 d', .int .i64 vr', .float .f64 xx', .int .u64 g', .int .i64 r']] W fun q w' => q = .returned (.agg #[.int .i64 kd', .int .i64 pe', .int .i64 f', .int .u64 n', .int .u64 d', .int .i64 vr', .float .f64 xx', .int .u64 g', .int .i64 r']) ∧ (fun W => W.cell? ⟨b, o + k * 9, none⟩ = some (.int .i64 kd) ∧ W.cell? ⟨b, o + k * 9 + 1, none⟩ = some (.int .i64 pe) ∧ W.cell? ⟨b, o + k * 9 + 2, none⟩ = some (.int .i64 f) ∧ W.cell? ⟨b, o + k * 9 + 3, none⟩ = some (.int .u64 n) ∧ W.cell? ⟨b, o + k * 9 + 4, none⟩ = some (.int .u64 d) ∧ W.cell? ⟨b, o + k * 9 + 5, none⟩ = some (.int .i64 vr) ∧ W.cell? ⟨b, o + k * 9 + 6, none⟩ = some (.float .f64 xx) ∧ W.cell? ⟨b, o + k * 9 + 7, none⟩ = some (.int .u64 g) ∧ W.cell? ⟨b, o + k * 9 + 8, none⟩ = some (.int .i64 r) ∧ W.cell? ⟨X, 0, none⟩ = some (.int .i64 kd) ∧ W.cell? ⟨X, 1, none⟩ = some (.int .i64 pe) ∧ W.cell? ⟨X, 2, none⟩ = some (.int .i64 f) ∧ W.cell? ⟨X, 3, none⟩ = some (.int .u64 n) ∧ W.cell? ⟨X, 4, none⟩ = some (.int .u64 d) ∧ W.cell? ⟨X, 5, none⟩ = some (.int .i64 vr) ∧ W.cell? ⟨X, 6, none⟩ = some (.float .f64 xx) ∧ W.cell? ⟨X, 7, none⟩ = some (.int .u64 g) ∧ W.cell? ⟨X, 8, none⟩ = some (.int .i64 r) ∧ W.cell? ⟨XB, 0, none⟩ = some (.int .i64 kd') ∧ W.cell? ⟨XB, 1, none⟩ = some (.int .i64 pe') ∧ W.cell? ⟨XB, 2, none⟩ = some (.int .i64 f') ∧ W.cell? ⟨XB, 3, none⟩ = some (.int .u64 n') ∧ W.cell? ⟨XB, 4, none⟩ = some (.int .u64 d') ∧ W.cell? ⟨XB, 5, none⟩ = some (.int .i64 vr') ∧ W.cell? ⟨XB, 6, none⟩ = some (.float .f64 xx') ∧ W.cell? ⟨XB, 7, none⟩ = some (.int .u64 g') ∧ W.cell? ⟨XB, 8, none⟩ = some (.int .i64 r') ∧ Mod (fun _ => False) wc W) w') := fun W hS => (HS3.out W).mono fun _ w' ⟨h, hm⟩ => ⟨h, HMK.out w' ((HMO.out W hS).trans hm)⟩
          have C5 : Hid (∀ W, (fun W => W.cell? ⟨b, o + k * 9, none⟩ = some (.int .i64 kd) ∧ W.cell? ⟨b, o + k * 9 + 1, none⟩ = some (.int .i64 pe) ∧ W.cell? ⟨b, o + k * 9 + 2, none⟩ = some (.int .i64 f) ∧ W.cell? ⟨b, o + k * 9 + 3, none⟩ = some (.int .u64 n) ∧ W.cell? ⟨b, o + k * 9 + 4, none⟩ = some (.int .u64 d) ∧ W.cell? ⟨b, o + k * 9 + 5, none⟩ = some (.int .i64 vr) ∧ W.cell? ⟨b, o + k * 9 + 6, none⟩ = some (.float .f64 xx) ∧ W.cell? ⟨b, o + k * 9 + 7, none⟩ = some (.int .u64 g) ∧ W.cell? ⟨b, o + k * 9 + 8, none⟩ = some (.int .i64 r) ∧ W.cell? ⟨X, 0, none⟩ = some (.int .i64 kd) ∧ W.cell? ⟨X, 1, none⟩ = some (.int .i64 pe) ∧ W.cell? ⟨X, 2, none⟩ = some (.int .i64 f) ∧ W.cell? ⟨X, 3, none⟩ = some (.int .u64 n) ∧ W.cell? ⟨X, 4, none⟩ = some (.int .u64 d) ∧ W.cell? ⟨X, 5, none⟩ = some (.int .i64 vr) ∧ W.cell? ⟨X, 6, none⟩ = some (.float .f64 xx) ∧ W.cell? ⟨X, 7, none⟩ = some (.int .u64 g) ∧ W.cell? ⟨X, 8, none⟩ = some (.int .i64 r) ∧ W.cell? ⟨XB, 0, none⟩ = some (.int .i64 kd') ∧ W.cell? ⟨XB, 1, none⟩ = some (.int .i64 pe') ∧ W.cell? ⟨XB, 2, none⟩ = some (.int .i64 f') ∧ W.cell? ⟨XB, 3, none⟩ = some (.int .u64 n') ∧ W.cell? ⟨XB, 4, none⟩ = some (.int .u64 d') ∧ W.cell? ⟨XB, 5, none⟩ = some (.int .i64 vr') ∧ W.cell? ⟨XB, 6, none⟩ = some (.float .f64 xx') ∧ W.cell? ⟨XB, 7, none⟩ = some (.int .u64 g') ∧ W.cell? ⟨XB, 8, none⟩ = some (.int .i64 r') ∧ Mod (fun _ => False) wc W) W → Calls Tryd.prog 20 #[.agg #[.int .i64 kd, .int .i64 pe, .int .i64 f, .int .u64 n, .int .u64 d, .int .i64 vr, .float .f64 xx, .int .u64 g, .int .i64 r], .agg #[.int .i64 kd', .int .i64 pe', .int .i64 f', .int .u64 n', .int .u64 d', .int .i64 vr', .float .f64 xx', .int .u64 g', .int .i64 r']] W fun q w' => q = .returned (.bool sm) ∧ (fun W => W.cell? ⟨b, o + k * 9, none⟩ = some (.int .i64 kd) ∧ W.cell? ⟨b, o + k * 9 + 1, none⟩ = some (.int .i64 pe) ∧ W.cell? ⟨b, o + k * 9 + 2, none⟩ = some (.int .i64 f) ∧ W.cell? ⟨b, o + k * 9 + 3, none⟩ = some (.int .u64 n) ∧ W.cell? ⟨b, o + k * 9 + 4, none⟩ = some (.int .u64 d) ∧ W.cell? ⟨b, o + k * 9 + 5, none⟩ = some (.int .i64 vr) ∧ W.cell? ⟨b, o + k * 9 + 6, none⟩ = some (.float .f64 xx) ∧ W.cell? ⟨b, o + k * 9 + 7, none⟩ = some (.int .u64 g) ∧ W.cell? ⟨b, o + k * 9 + 8, none⟩ = some (.int .i64 r) ∧ W.cell? ⟨X, 0, none⟩ = some (.int .i64 kd) ∧ W.cell? ⟨X, 1, none⟩ = some (.int .i64 pe) ∧ W.cell? ⟨X, 2, none⟩ = some (.int .i64 f) ∧ W.cell? ⟨X, 3, none⟩ = some (.int .u64 n) ∧ W.cell? ⟨X, 4, none⟩ = some (.int .u64 d) ∧ W.cell? ⟨X, 5, none⟩ = some (.int .i64 vr) ∧ W.cell? ⟨X, 6, none⟩ = some (.float .f64 xx) ∧ W.cell? ⟨X, 7, none⟩ = some (.int .u64 g) ∧ W.cell? ⟨X, 8, none⟩ = some (.int .i64 r) ∧ W.cell? ⟨XB, 0, none⟩ = some (.int .i64 kd') ∧ W.cell? ⟨XB, 1, none⟩ = some (.int .i64 pe') ∧ W.cell? ⟨XB, 2, none⟩ = some (.int .i64 f') ∧ W.cell? ⟨XB, 3, none⟩ = some (.int .u64 n') ∧ W.cell? ⟨XB, 4, none⟩ = some (.int .u64 d') ∧ W.cell? ⟨XB, 5, none⟩ = some (.int .i64 vr') ∧ W.cell? ⟨XB, 6, none⟩ = some (.float .f64 xx') ∧ W.cell? ⟨XB, 7, none⟩ = some (.int .u64 g') ∧ W.cell? ⟨XB, 8, none⟩ = some (.int .i64 r') ∧ Mod (fun _ => False) wc W) w') := fun W hS => (HS2.out W).mono fun _ w' ⟨h, hm⟩ => ⟨h, HMK.out w' ((HMO.out W hS).trans hm)⟩
          have hS0 := HMK.out wc.drew (Mod.refl _ _).drew
          have tq1 : (te == te) = true := beq_iff_eq.2 rfl
          have tq2 : (te != te) = false := by simp
          have tq3 : (sm != sm) = false := by simp
          clear HMK HTW HSH HRS HS1 HS2 HS3 HEB2 a0 a1 a2 a3 a4 a5 a6 a7 a8 m0 m1 m2 m3 m4 m5 m6 m7 m8 x0 x1 x2 x3 x4 x5 x6 x7 x8
          go_wp2_with fail
          go_region_held3 (fun W => W.cell? ⟨b, o + k * 9, none⟩ = some (.int .i64 kd) ∧ W.cell? ⟨b, o + k * 9 + 1, none⟩ = some (.int .i64 pe) ∧ W.cell? ⟨b, o + k * 9 + 2, none⟩ = some (.int .i64 f) ∧ W.cell? ⟨b, o + k * 9 + 3, none⟩ = some (.int .u64 n) ∧ W.cell? ⟨b, o + k * 9 + 4, none⟩ = some (.int .u64 d) ∧ W.cell? ⟨b, o + k * 9 + 5, none⟩ = some (.int .i64 vr) ∧ W.cell? ⟨b, o + k * 9 + 6, none⟩ = some (.float .f64 xx) ∧ W.cell? ⟨b, o + k * 9 + 7, none⟩ = some (.int .u64 g) ∧ W.cell? ⟨b, o + k * 9 + 8, none⟩ = some (.int .i64 r) ∧ W.cell? ⟨X, 0, none⟩ = some (.int .i64 kd) ∧ W.cell? ⟨X, 1, none⟩ = some (.int .i64 pe) ∧ W.cell? ⟨X, 2, none⟩ = some (.int .i64 f) ∧ W.cell? ⟨X, 3, none⟩ = some (.int .u64 n) ∧ W.cell? ⟨X, 4, none⟩ = some (.int .u64 d) ∧ W.cell? ⟨X, 5, none⟩ = some (.int .i64 vr) ∧ W.cell? ⟨X, 6, none⟩ = some (.float .f64 xx) ∧ W.cell? ⟨X, 7, none⟩ = some (.int .u64 g) ∧ W.cell? ⟨X, 8, none⟩ = some (.int .i64 r) ∧ W.cell? ⟨XB, 0, none⟩ = some (.int .i64 kd') ∧ W.cell? ⟨XB, 1, none⟩ = some (.int .i64 pe') ∧ W.cell? ⟨XB, 2, none⟩ = some (.int .i64 f') ∧ W.cell? ⟨XB, 3, none⟩ = some (.int .u64 n') ∧ W.cell? ⟨XB, 4, none⟩ = some (.int .u64 d') ∧ W.cell? ⟨XB, 5, none⟩ = some (.int .i64 vr') ∧ W.cell? ⟨XB, 6, none⟩ = some (.float .f64 xx') ∧ W.cell? ⟨XB, 7, none⟩ = some (.int .u64 g') ∧ W.cell? ⟨XB, 8, none⟩ = some (.int .i64 r') ∧ Mod (fun _ => False) wc W) (first | assumption) (first | (go_at_call 13; (with_reducible refine (C1.out _ (by assumption)).mono ?_); rintro q wS1 ⟨rfl, hS1⟩) | (go_at_call 19; (with_reducible refine (C2.out _ (by assumption)).mono ?_); rintro q wS2 ⟨rfl, hS2⟩) | (go_at_call 14; (with_reducible refine (C3.out _ (by assumption)).mono ?_); rintro q wS3 ⟨rfl, hS3⟩) | (go_at_call 18; (with_reducible refine (C4.out _ (by assumption)).mono ?_); rintro q wS4 ⟨rfl, hS4⟩) | (go_at_call 20; (with_reducible refine (C5.out _ (by assumption)).mono ?_); rintro q wS5 ⟨rfl, hS5⟩))
          have HN : Hid (SL B w1 L2 p va vt vg wS5) := HSL.out _ _ _ _ _ (HSB.out.quiet (HMO.out wS5 hS5))
          clear hS0 hS1 hS2 hS3 hS4 hS5
          go_wp2
          go_roundw
          case rel => exact ⟨k + 1, _, _, _, by omega, by go_num, by rw [HL2.out, HCN2.out], rfl, rfl, rfl, by rw [HL2.out]; exact HN⟩
          case measure => simp [intOf]; omega
    · obtain rfl : k = l.length := by omega
      have ti : decide (l.length < l.length) = false := decide_eq_false (by omega)
      rw [List.take_length] at hD ⊢
      obtain ⟨fv, hSS⟩ := hD.out
      have HSS := Lib.hid hSS
      have HEIN : Hid (∀ W, Below w.heap.size w W → EvIn W (.slice A0 l.length c0) l) := fun W hW => HEI.out.mod (Mod.of_below hW)
      have HLA : Hid ((atL l p).length ≤ 60) := Nat.le_trans (atL_len l p) hl60
      have HLG : Hid ((gotL (atL l p)).length ≤ 60) := Nat.le_trans (gotL_len _) HLA.out
      have HDE : Hid (Calls Tryd.prog 12 #[.pointer (some ⟨B, 0, none⟩), .int .i64 p] wr (DGave wr (gotL (atL l p)))) := delivered_any B B l fv p wr hSS.film (by omega) HFIT.out
      have HALL : Hid (∀ W, Mod (fun _ => False) wr W → Calls Tryd.prog 22 #[.pointer (some ⟨B, 0, none⟩)] W (EGave W l)) := fun W hW => all_any B B l fv W (hSS.film.none hW) (by omega)
      have HATC : Hid (∀ W, Mod (fun _ => False) wr W → Calls Tryd.prog 10 #[.pointer (some ⟨B, 0, none⟩), .int .i64 p] W (EGave W (atL l p))) := fun W hW => at_any B B l fv p W (hSS.film.none hW) (by omega)
      have HCNT : Hid (∀ W, Mod (fun _ => False) wr W → Calls Tryd.prog 11 #[.pointer (some ⟨B, 0, none⟩), .int .i64 kind] W fun q w' => q = .returned (.int .i64 (cntL l kind : Nat)) ∧ Mod (fun _ => False) W w') := fun W hW => count_any B B l fv kind W (hSS.film.none hW) (by omega)
      have HBW : Hid (∀ W, Mod (fun _ => False) wr W → Below w.heap.size w W) := fun W hW => HBE.out W (hSS.mod.trans' hW (fun _ _ h => h.elim))
      have HEVA : Hid (∀ W v, Mod (fun _ => False) wr W → EvRow W v l → Calls Tryd.prog 21 #[v, all] W fun q w' => q = .returned (.bool true) ∧ Mod (fun _ => False) W w') := fun W v hW hv => events_any v all l W hv (hSS.quiet hW).ra (by omega) HFIT.out
      have HEVT : Hid (∀ W v, Mod (fun _ => False) wr W → EvRow W v (atL l p) → Calls Tryd.prog 21 #[v, att] W fun q w' => q = .returned (.bool true) ∧ Mod (fun _ => False) W w') := fun W v hW hv => events_any v att (atL l p) W hv (hSS.quiet hW).rt (by have := HLA.out; omega) (fun e he => HFIT.out e (List.mem_filter.1 he).1)
      have HCUT : Hid (∀ W, Mod (fun _ => False) wr W → Calls Tryd.prog 17 #[.slice A0 l.length c0] W fun q w' => q = .returned (.bool (rcut l)) ∧ Mod (fun _ => False) W w') := fun W hW => by
        rw [← cut_alike]
        exact cut_any _ l W (HEIN.out W (HBW.out W hW)) (by omega) HFIT.out
      have HRCU : Hid (∀ W, Mod (fun _ => False) wr W → Calls Tryd.prog 23 #[all] W fun q w' => q = .returned (.bool (rcut l)) ∧ Mod (fun _ => False) W w') := fun W hW => rcut_any all l W (hSS.quiet hW).ra (by omega)
      have HGR : Hid (∀ W, Mod (fun _ => False) wr W → DRow W got (gotL (atL l p))) := fun W hW => (hSS.quiet hW).rg
      have tn : (cntL l kind == cntL l kind) = true := beq_iff_eq.2 rfl
      have tr1 : (rcut l == rcut l) = true := beq_iff_eq.2 rfl
      generalize rcut l = rc at *
      generalize cntL l kind = cn at *
      generalize gotL (atL l p) = G at *
      generalize atL l p = T at *
      clear hSS hD HSS HFIT HSX HRX HEX HEI HEIN H0 HT HXE2 HBE HM hlt
      obtain ⟨Ag, cg, rfl⟩ := RowOf.form (HGR.out wr (Mod.refl _ _))
      have hg60 : (G.length : Int) ≤ 60 := by have := HLG.out; omega
      go_wp2_with fail
      refine HDE.out.mono ?_
      rintro q wD ⟨vd, rfl, hrd, hmD, -⟩
      obtain ⟨Ad, cd, rfl⟩ := RowOf.form hrd
      have HMD := Lib.hid hmD
      have HRD := Lib.hid hrd
      have tg : ((G.length : Int) != (G.length : Int)) = false := by simp
      clear hrd hmD HDE
      go_wp2
      go_loopw [18] (fun i wq => ∃ j : Nat, j ≤ G.length ∧ i = .int .i64 j ∧ Hid (∃ m, wq = wD.drewN m)) (fun i _ => G.length - (intOf i).toNat)
      case atStart => exact ⟨0, Nat.zero_le _, rfl, ⟨0, rfl⟩⟩
      case round =>
        rename World => wq
        obtain ⟨j, hj, rfl, HQ⟩ := hrel
        have HMQ : Hid (Mod (fun _ => False) wD wq) := by
          obtain ⟨m, hm⟩ := HQ.out
          show Mod _ _ _
          rw [hm]
          exact (Mod.refl _ _).drewN m
        by_cases hjl : j < G.length
        · obtain ⟨y, hy⟩ : ∃ y, G[j]? = some y := ⟨_, List.getElem?_eq_getElem hjl⟩
          have h1 : DRow wq (.slice Ad G.length cd) G := RowOf.mod HRD.out HMQ.out (fun _ _ x => x)
          have h2 : DRow wq (.slice Ag G.length cg) G := HGR.out wq (HMD.out.trans HMQ.out)
          obtain ⟨b1, o1, rfl, p0, p1⟩ := h1.two hy
          obtain ⟨b2, o2, rfl, q0, q1⟩ := h2.two hy
          have hji : (j : Int) < G.length := by omega
          have hji0 : (0 : Int) ≤ (j : Int) := by omega
          have tj : decide (j < G.length) = true := decide_eq_true hjl
          have hjb : (j : Int) < 60 := by omega
          have HQN : Hid (∀ q, ∃ m, wq.drewN q = wD.drewN m) := fun q => by
            obtain ⟨m, hm⟩ := HQ.out
            exact ⟨m + q, by rw [hm, World.drewN_drewN]⟩
          obtain ⟨y1, y2⟩ := y
          dsimp only at p0 p1 q0 q1
          have heq := eq_pair y1 y2
          clear h1 h2 hy hjl
          go_wp2_with fail
          go_quiet (fail)
          go_wp2
          go_roundw
          case rel => exact ⟨j + 1, by omega, by go_num, HQN.out _⟩
          case measure => simp [intOf]; omega
        · obtain rfl : j = G.length := by omega
          have tii : decide (G.length < G.length) = false := decide_eq_false (by omega)
          have HM1 : Hid (Mod (fun _ => False) wr wq) := HMD.out.trans HMQ.out
          have K1 := Lib.hid (HALL.out wq HM1.out)
          clear hjl HMQ HMD HQ
          go_wp2_with fail
          refine K1.out.mono ?_
          rintro q u1 ⟨v1, rfl, hr1, hm1, -⟩
          have HM2 : Hid (Mod (fun _ => False) wr u1) := HM1.out.trans hm1
          have K2 := Lib.hid (HEVA.out u1 v1 HM2.out hr1)
          clear hr1 hm1 K1
          go_wp2_with fail
          refine K2.out.mono ?_
          rintro q u2 ⟨rfl, hm2⟩
          have HM3 : Hid (Mod (fun _ => False) wr u2) := HM2.out.trans hm2
          have K3 := Lib.hid (HATC.out u2 HM3.out)
          clear hm2 K2
          go_wp2_with fail
          refine K3.out.mono ?_
          rintro q u3 ⟨v3, rfl, hr3, hm3, -⟩
          have HM4 : Hid (Mod (fun _ => False) wr u3) := HM3.out.trans hm3
          have K4 := Lib.hid (HEVT.out u3 v3 HM4.out hr3)
          clear hr3 hm3 K3
          go_wp2_with fail
          refine K4.out.mono ?_
          rintro q u4 ⟨rfl, hm4⟩
          have HM5 : Hid (Mod (fun _ => False) wr u4) := HM4.out.trans hm4
          have K5 := Lib.hid (HCNT.out u4 HM5.out)
          clear hm4 K4
          go_wp2_with fail
          refine K5.out.mono ?_
          rintro q u5 ⟨rfl, hm5⟩
          have HM6 : Hid (Mod (fun _ => False) wr u5) := HM5.out.trans hm5
          have K6 := Lib.hid (HCUT.out u5 HM6.out)
          clear hm5 K5
          go_wp2_with fail
          refine K6.out.mono ?_
          rintro q u6 ⟨rfl, hm6⟩
          have HM7 : Hid (Mod (fun _ => False) wr u6) := HM6.out.trans hm6
          have K7 := Lib.hid (HRCU.out u6 HM7.out)
          clear hm6 K6
          go_wp2_with fail
          refine K7.out.mono ?_
          rintro q u7 ⟨rfl, hm7⟩
          have HBF := Lib.hid (HBW.out u7 (HM7.out.trans hm7))
          clear hm7 K7
          go_wp2
          go_ret
          exact ⟨rfl, HBF.out⟩
set_option maxRecDepth 100000 in
theorem says_walk {H : Type} {enc : TypeId × Value → H} {b0 b1 : Nat} {d d' : DataW H} {ps ps' : List MemPlace} (W : World) (hL : Tab W) (v : Value) (hok : Value.okWide Tryd.prog W .any b0 22 v)
    (h : DataW.Trod enc Tryd.prog W 0 (fun _ => true) true 22 v d ps) (p : Int) (_ : (Lit.int .i64 p).wf = true) (kind : Int) (_ : (Lit.int .i64 kind).wf = true) (v' : Value) (hok' : Value.okWide Tryd.prog W .any b1 31 v')
    (h' : DataW.Trod enc Tryd.prog W 0 (fun _ => true) true 31 v' d' ps') : Calls Tryd.prog 6 #[v, .int .i64 p, .int .i64 kind, v'] W fun e w' => e = .returned (.bool true) ∧ Below W.heap.size W w' := by
  obtain ⟨l, hz⟩ := open_rows (C := 9) (cells := Ev.cells) (fit := Ev.Ok) Tryd.underlying22 cellsEv (by decide) ev_of hok h
  obtain ⟨x, rfl, okx⟩ := agg_of hok' h'
  exact says_any v l p kind x okx W hz hL
end Go.Proofs.YtlklbdnlpljaiaaDoor
