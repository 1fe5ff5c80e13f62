/-
  The reference's ship: New, Room, Push, Tick.
-/
import Derived.Test.YtcgfbbfepopinaaShipU
namespace Go.Proofs.Ytcgfbbfepopinaa
open Go.RowKit Go.Shoal

def RShip (w : World) (R pr : Nat) (s : Shp) : Prop := ∃ ov wv, RSh w R pr ov wv s
theorem RShip.same {w w' : World} {R pr : Nat} {s : Shp} (h : RShip w R pr s) (hm : Mod (fun _ => False) w w') : RShip w' R pr s := by
  obtain ⟨ov, wv, h⟩ := h
  exact ⟨ov, wv, h.same hm⟩
theorem RShip.keepT {ts : List Nat} {w w' : World} {R pr : Nat} {s : Shp} (h : RShip w R pr s) (hk : KeepT ts w w') (hs : ∀ t ∈ refT, t ∈ ts) : RShip w' R pr s := by
  obtain ⟨ov, wv, h⟩ := h
  exact ⟨ov, wv, h.keepT hk hs⟩
def RMade (w : World) (win que : Nat) (f m : Int) (e : Ending) (w' : World) : Prop := ∃ R pr, e = .returned (.pointer (some ⟨R, 0, none⟩)) ∧ RShip w' R pr (Shp.new win que f m) ∧ Mod (fun _ => False) w w' ∧ w.heap.size ≤ R ∧ w.heap.size ≤ pr
theorem rnew_any (win que : Nat) (f m : Int) (w : World) : Calls Try.prog 19 #[.int .i64 win, .int .i64 que, .int .i64 f, .int .i64 m] w (RMade w win que f m) := by
  have HN := Lib.hid (ref_new f m w)
  go_enter Try.func19, Try.ntmps19
  go_wp2_with fail
  refine HN.out.mono ?_
  rintro e w1 ⟨rfl, hp, hm⟩
  have HE : Hid (RMade w win que f m (.returned (.pointer (some ⟨w1.heap.size, 0, none⟩))) (w1.alloc (.cells #[.int .i64 win, .int .i64 que, .pointer (some ⟨w.heap.size, 0, none⟩), .slice none 0 0, .slice none 0 0, .int .u64 0] 61))) :=
    ⟨_, _, rfl, ⟨_, _, ⟨blk_new _ _, blk_alloc hp _, RowOf.nil _ _ _, RowOf.nil _ _ _⟩⟩, hm.alloc _, hm.size, Nat.le_refl _⟩
  clear hp hm HN
  go_wp2
  go_ret
  exact HE.out
theorem rroom_any (w : World) (R pr : Nat) (s : Shp) (b : Bool) (h : RShip w R pr s) (hq : 2 ≤ s.que ∧ s.que ≤ 32) :
    Calls Try.prog 20 #[.pointer (some ⟨R, 0, none⟩), .bool b] w fun e w' => e = .returned (.bool (s.room b)) ∧ ∃ n, w' = w.drewN n := by
  obtain ⟨ov, wv, h⟩ := h
  obtain ⟨A, c, rfl⟩ := RowOf.form h.waits
  have c1 : w.cell? ⟨R, 1, none⟩ = some (.int .i64 s.que) := (blk_cell h.top 1).trans rfl
  have c4 : w.cell? ⟨R, 4, none⟩ = some (.slice A s.waits.length c) := (blk_cell h.top 4).trans rfl
  obtain ⟨q1, q2⟩ := hq
  have HE : Hid (∀ x : Bool, x = s.room b → ∀ n, Ending.returned (.bool x) = .returned (.bool (s.room b)) ∧ ∃ m, w.drewN n = w.drewN m) := fun x hx n => ⟨by rw [hx], n, rfl⟩
  clear h
  cases b
  · go_enter Try.func20, Try.ntmps20
    go_wp2
    go_quiet (fail)
    go_wp2
    go_ret
    refine HE.out _ ?_ _
    show _ = decide (s.waits.length + 1 < s.que)
    exact decide_eq_decide.2 (by omega)
  · go_enter Try.func20, Try.ntmps20
    go_wp2
    go_quiet (fail)
    go_wp2
    go_ret
    refine HE.out _ ?_ _
    show _ = decide (s.waits.length < s.que)
    exact decide_eq_decide.2 (by omega)
theorem rpush_no (w : World) (R pr : Nat) (s : Shp) (b : Bool) (x : ByteArray) (h : RShip w R pr s) (hq : 2 ≤ s.que ∧ s.que ≤ 32) (hr : s.room b = false) :
    Calls Try.prog 21 #[.pointer (some ⟨R, 0, none⟩), .string x, .bool b] w fun e w' => e = .returned (.tuple #[.slice none 0 0, .bool false]) ∧ ∃ n, w' = w.drewN n := by
  have HR := rroom_any w R pr s b h hq
  rw [hr] at HR
  have HR := Lib.hid HR
  clear h hq hr
  go_enter Try.func21, Try.ntmps21
  go_wp2_with fail
  refine HR.out.mono ?_
  rintro e w1 ⟨rfl, n, rfl⟩
  go_wp2
  go_ret2
  exact ⟨rfl, n, rfl⟩
/-- What an operation leaves. -/
def RDid (w : World) (R pr : Nat) (s' : Shp) (l : List It) (mk : Value → Value) (e : Ending) (w' : World) : Prop :=
  ∃ rv, e = .returned (mk rv) ∧ RItemsAt w' rv l ∧ RShip w' R pr s' ∧ Mod (fun k => k = R ∨ k = pr) w w'
theorem RSh.paced {w w' : World} {R pr : Nat} {ov wv : Value} {s : Shp} {q : Pc} (h : RSh w R pr ov wv s) (hq : RefOk w' pr q) (hm : Mod (· = pr) w w') : RSh w' R pr ov wv { s with p := q } ∧ KeepT [61, 50, 9] w w' := by
  have hp := h.pace
  unfold RefOk RefAt at hp
  have hk : KeepT [61, 50, 9] w w' := KeepT.mod hm fun k cs t hc e => by
    subst e
    rw [hp] at hc
    cases hc
    decide
  exact ⟨⟨hk _ _ _ (by decide) h.top, hq, RowOf.keepT h.out hk (by decide), RowOf.keepT h.waits hk (by decide)⟩, hk⟩
theorem RSh.put {w w1 : World} {R pr : Nat} {ov wv v : Value} {s : Shp} {x : ByteArray} (h : RSh w R pr ov wv s) (hm : Mod (fun _ => False) w w1) (hr : w1.ownsRow w.heap.size 9 1 v (s.waits.length + 1) (s.waits.map Value.string ++ [.string x])) :
    RSh (w1.setCell ⟨R, 4, none⟩ v) R pr ov v (s.put x) ∧ Mod (· = R) w (w1.setCell ⟨R, 4, none⟩ v) := by
  have h1 := h.same hm
  have hm2 : Mod (· = R) w1 (w1.setCell ⟨R, 4, none⟩ v) := (Mod.refl (· = R) w1).set (p := ⟨R, 4, none⟩) (fun _ => rfl) v
  have hk : KeepT [63, 50, 9] w1 (w1.setCell ⟨R, 4, none⟩ v) := KeepT.set h1.top (by decide) _
  refine ⟨⟨(blk_set h1.top 4 v).trans rfl, hk _ _ _ (by decide) h1.pace, RowOf.keepT h1.out hk (by decide), ?_⟩, (hm.mono (fun _ _ x => x.elim)).trans hm2⟩
  have := RowOf.keepT (RowOf.of_own hr) hk (by decide)
  unfold RStrs
  rw [show (s.put x).waits = s.waits ++ [x] from rfl, List.length_append, List.map_append]
  exact this
theorem start_busy {p : Pc} (h : 0 < p.left) : p.start = p := by unfold Pc.start; rw [if_neg (by omega)]
def pair (v : Value) : Value := .tuple #[v, .bool true]
theorem filled_of {s : Shp} {q : Pc} (h : q = if (s.fillN s.goes).out = [] then s.p else s.p.start) : { s.fillN s.goes with p := q } = s.filled := by rw [h]; rfl
set_option maxRecDepth 100000 in
set_option maxHeartbeats 4000000 in
theorem rpush_yes (w : World) (R pr : Nat) (s : Shp) (b : Bool) (x : ByteArray) (h : RShip w R pr s) (hf : s.Fit) (hpf : (s.put x).Fit) (hq : 2 ≤ s.que ∧ s.que ≤ 32) (hw : s.win ≤ 16) (hr : s.room b = true) (hbusy : s.out ≠ [] → 0 < s.p.left) (ok : s.p.Ok) :
    Calls Try.prog 21 #[.pointer (some ⟨R, 0, none⟩), .string x, .bool b] w (RDid w R pr (s.put x).filled (s.put x).news pair) := by
  obtain ⟨i0, hii, hz0, hz1, hz2⟩ := info_parts Try.infoStr
  have HR := rroom_any w R pr s b h hq
  rw [hr] at HR
  have HR := Lib.hid HR
  have hwl := hf.2.1
  have hol := hf.1
  have HPF := Lib.hid hpf
  have HBUSY := Lib.hid hbusy
  have HOK := Lib.hid ok
  obtain ⟨ov, wv, h⟩ := h
  have HH := Lib.hid h
  clear h hq hr hf hpf hbusy ok
  go_enter Try.func21, Try.ntmps21
  go_wp2_with fail
  refine HR.out.mono ?_
  rintro e w1 ⟨rfl, n, rfl⟩
  have HH1 : Hid (RSh (w.drewN n) R pr ov wv s) := HH.out.same ((Mod.refl _ _).drewN n)
  have HMD : Hid (Mod (fun _ => False) w (w.drewN n)) := (Mod.refl _ _).drewN n
  obtain ⟨A3, k3, rfl⟩ := RowOf.form HH1.out.out
  obtain ⟨A4, k4, rfl⟩ := RowOf.form HH1.out.waits
  clear HH HR
  generalize w.drewN n = v0 at *
  have c3 : v0.cell? ⟨R, 3, none⟩ = some (.slice A3 s.out.length k3) := (blk_cell HH1.out.top 3).trans rfl
  have c4 : v0.cell? ⟨R, 4, none⟩ = some (.slice A4 s.waits.length k4) := (blk_cell HH1.out.top 4).trans rfl
  have HTOP := Lib.hid HH1.out.top
  have hRz := blk_lt HTOP.out
  have HSRC : Hid (SrcOk (v0.alloc (.cells #[] 9)) (.slice A4 s.waits.length k4) s.waits.length 1 (s.waits.map Value.string)) := (RowOf.src HH1.out.waits (in_one _)).below ((Below.refl _ _).alloc (Nat.le_refl _) _)
  have HO : Hid ((v0.alloc (Obj.cells #[] 9)).ownsRow v0.heap.size 9 1 (.slice (some ⟨v0.heap.size, 0, none⟩) 0 0) 0 []) := World.ownsRow_made v0 #[] 0 (Nat.le_refl _) (by unfold maxLen; omega) rfl
  have hne : R ≠ v0.heap.size := by omega
  go_wp2_with (at_builtin; refine wpList_append_src (by rfl) _ _ 22 (by rfl) v0.heap.size 9 i0 (.string ByteArray.empty) 1 16 Try.underlying22 hii hz0 hz1 hz2 rfl (by omega) (.slice (some ⟨v0.heap.size, 0, none⟩) 0 0) 0 [] (by rfl) HO.out (.slice A4 s.waits.length k4) s.waits.length (s.waits.map Value.string) (by rfl) HSRC.out (by unfold maxLen; omega) (by omega) (by simp) ?_)
  intro v1 w1 hown hgrow hat
  try simp only [Nat.zero_add, List.nil_append] at hown
  have HM1 : Hid (Mod (fun _ => False) v0 w1) := ((Mod.refl (fun _ => False) v0).alloc _).grown hgrow (fun k hk => by cases hk; exact Nat.le_refl _)
  have HO1 : Hid ((w1.alloc (.cells #[.string x] 9)).ownsRow v0.heap.size 9 1 v1 s.waits.length (s.waits.map Value.string)) := hown.alloc _
  have HX : Hid (SrcOk (w1.alloc (.cells #[.string x] 9)) (.slice (some ⟨w1.heap.size, 0, none⟩) 1 1) 1 1 [.string x]) := SrcOk.block (blk_new w1 _) rfl (fun j u hu => by rw [Nat.zero_add]; simpa using hu) (by simp [Value.oneCell'])
  have hz1' : v0.heap.size ≤ w1.heap.size := HM1.out.size
  clear hown hgrow hat HO HSRC c3 c4
  go_wp2_with (at_builtin; refine wpList_append_src (by rfl) _ _ 22 (by rfl) v0.heap.size 9 i0 (.string ByteArray.empty) 1 16 Try.underlying22 hii hz0 hz1 hz2 rfl (by omega) v1 s.waits.length (s.waits.map Value.string) (by rfl) HO1.out _ 1 [.string x] (by rfl) HX.out (by unfold maxLen; omega) (by omega) (by simp; omega) ?_)
  intro v2 w2 hown hgrow hat
  have hm2 : Mod (fun _ => False) v0 w2 := (HM1.out.alloc _).grown hgrow (fun k hk => own_base HO1.out k hk)
  have hb2 := hm2.blk HTOP.out (fun x => x)
  have f4 := blk_frozen hb2 4
  have c4 : w2.cell? ⟨R, 4, none⟩ = some (.slice A4 s.waits.length k4) := (blk_cell hb2 4).trans rfl
  obtain ⟨A2, cap2, rfl⟩ := RowOf.form (RowOf.of_own hown)
  have HPUT := Lib.hid (HH1.out.put hm2 hown)
  clear hown hgrow hat hm2 hb2 HM1 HO1 HX
  have HG := Lib.hid (rgoes_any _ R pr _ _ (s.put x) HPUT.out.1 HPF.out hw)
  go_wp2_with fail
  refine HG.out.mono ?_
  rintro e w3 ⟨rv, rfl, ov3, wv3, hS3, hI3, hM3⟩
  have HS3 := Lib.hid hS3
  have HI3 := Lib.hid hI3
  have HM3 : Hid (Mod (· = R) w w3) := ((HMD.out.mono (fun _ _ x => x.elim)).trans HPUT.out.2).trans hM3
  obtain ⟨A9, k9, rfl⟩ := RowOf.form hS3.out
  have e3 : w3.cell? ⟨R, 3, none⟩ = some (.slice A9 ((s.put x).fillN (s.put x).goes).out.length k9) := (blk_cell hS3.top 3).trans rfl
  have e2 : w3.cell? ⟨R, 2, none⟩ = some (.pointer (some ⟨pr, 0, none⟩)) := (blk_cell hS3.top 2).trans rfl
  have hlen : ((s.put x).fillN (s.put x).goes).out = s.out ++ (s.put x).news := rfl
  clear hS3 hI3 hM3 HG f4 c4 HMD HTOP HH1 HPUT
  have HLEN := Lib.hid hlen
  clear hlen
  by_cases ho : s.out = []
  · have t0 : ((s.out.length : Int) == 0) = true := by rw [ho]; rfl
    by_cases hn : ((s.put x).fillN (s.put x).goes).out = []
    · have HE : Hid (RDid w R pr (s.put x).filled (s.put x).news pair (.returned (pair rv)) w3) := by
        have hfe : (s.put x).filled = (s.put x).fillN (s.put x).goes := by
          unfold Shp.filled
          rw [if_pos hn]
          rfl
        refine ⟨rv, rfl, HI3.out, ?_, HM3.out.mono (fun _ _ x => .inl x)⟩
        rw [hfe]
        exact ⟨_, _, HS3.out⟩
      rw [hn] at e3
      have e3' : w3.cell? ⟨R, 3, none⟩ = some (.slice A9 0 k9) := e3
      clear e3 ho hn HS3 HI3 HM3
      go_wp2
      go_ret2
      exact HE.out
    · have hpos : 0 < ((s.put x).fillN (s.put x).goes).out.length := List.length_pos_iff.2 hn
      have t1 : decide ((0 : Int) < (((s.put x).fillN (s.put x).goes).out.length : Int)) = true := decide_eq_true (by omega)
      have t1' : decide (0 < ((s.put x).fillN (s.put x).goes).out.length) = true := decide_eq_true hpos
      have HST := Lib.hid (ref_start w3 pr (s.put x).p HS3.out.pace HOK.out.l0 (by have h1 := HOK.out.f1; have h2 := HOK.out.fs; show 1 ≤ s.p.step; omega))
      have HNE := Lib.hid hn
      clear ho hn hpos
      generalize ((s.put x).fillN (s.put x).goes).out.length = N at *
      go_wp2_with fail
      refine HST.out.mono ?_
      rintro e w4 ⟨rfl, hp, hm⟩
      have HE : Hid (RDid w R pr (s.put x).filled (s.put x).news pair (.returned (pair rv)) w4) := by
        obtain ⟨k1, k2⟩ := HS3.out.paced hp hm
        have hfe : { (s.put x).fillN (s.put x).goes with p := (s.put x).p.start } = (s.put x).filled := filled_of (by rw [if_neg HNE.out])
        rw [hfe] at k1
        exact ⟨rv, rfl, RowOf.keepT HI3.out k2 (by decide), ⟨_, _, k1⟩, (HM3.out.mono (T := fun k => k = R ∨ k = pr) (fun _ _ x => .inl x)).trans (hm.mono (fun _ _ x => .inr x))⟩
      clear hp hm
      go_wp2
      go_ret2
      exact HE.out
  · have t0 : ((s.out.length : Int) == 0) = false := by
      have := List.length_pos_iff.2 ho
      rw [beq_eq_false_iff_ne]
      omega
    have HE : Hid (RDid w R pr (s.put x).filled (s.put x).news pair (.returned (pair rv)) w3) := by
      have hne2 : ((s.put x).fillN (s.put x).goes).out ≠ [] := by rw [HLEN.out]; exact fun e => ho (List.append_eq_nil_iff.1 e).1
      have hfe : (s.put x).filled = (s.put x).fillN (s.put x).goes := by
        unfold Shp.filled
        rw [if_neg hne2, show (s.put x).p.start = (s.put x).p from start_busy (HBUSY.out ho)]
        rfl
      refine ⟨rv, rfl, HI3.out, ?_, HM3.out.mono (fun _ _ x => .inl x)⟩
      rw [hfe]
      exact ⟨_, _, HS3.out⟩
    clear ho HS3 HI3 HM3
    go_wp2
    go_ret2
    exact HE.out
/-- What Tick leaves. -/
def idV (v : Value) : Value := v
set_option maxHeartbeats 2000000 in
theorem rtick_any (w : World) (R pr : Nat) (s : Shp) (h : RShip w R pr s) (hf : s.Fit) (ok : s.p.Ok) (hr : 0 ≤ s.p.rings ∧ s.p.rings ≤ 1000000) :
    Calls Try.prog 23 #[.pointer (some ⟨R, 0, none⟩)] w (RDid w R pr { s with p := s.p.tick.1 } (if s.p.tick.2 then s.out else []) idV) := by
  obtain ⟨i0, hii, hz0, hz1, hz2⟩ := info_parts Try.infoItem9
  obtain ⟨ov, wv, h⟩ := h
  have HT := ref_tick w pr s.p h.pace ok hr
  have hol := hf.1
  have c2 : w.cell? ⟨R, 2, none⟩ = some (.pointer (some ⟨pr, 0, none⟩)) := (blk_cell h.top 2).trans rfl
  have HH := Lib.hid h
  clear h hf ok hr
  cases ht : s.p.tick.2
  · rw [ht] at HT
    have HT' := Lib.hid HT
    clear HT ht
    go_enter Try.func23, Try.ntmps23
    go_wp2_with fail
    refine HT'.out.mono ?_
    rintro e w1 ⟨rfl, hp, hm⟩
    have HE : Hid (RDid w R pr { s with p := s.p.tick.1 } (if false = true then s.out else []) idV (.returned (.slice none 0 0)) w1) :=
      ⟨_, rfl, RowOf.nil _ _ _, ⟨_, _, (HH.out.paced hp hm).1⟩, hm.mono (fun _ _ x => .inr x)⟩
    clear hp hm
    go_wp2
    go_ret
    exact HE.out
  · rw [ht] at HT
    have HT' := Lib.hid HT
    clear HT ht
    go_enter Try.func23, Try.ntmps23
    go_wp2_with fail
    refine HT'.out.mono ?_
    rintro e w1 ⟨rfl, hp, hm⟩
    have HS1 := Lib.hid (HH.out.paced hp hm).1
    have HM1 : Hid (Mod (fun k => k = R ∨ k = pr) w w1) := hm.mono (fun _ _ x => .inr x)
    clear hp hm
    obtain ⟨A, c, rfl⟩ := RowOf.form HS1.out.out
    have c3 : w1.cell? ⟨R, 3, none⟩ = some (.slice A s.out.length c) := (blk_cell HS1.out.top 3).trans rfl
    have hRz := blk_lt HS1.out.top
    have hne : R ≠ w1.heap.size := by omega
    have HSRC : Hid (SrcOk (w1.alloc (.cells #[] 50)) (.slice A s.out.length c) s.out.length 2 (rflat s.out)) := (RowOf.src HS1.out.out (rflat_one _)).below ((Below.refl _ _).alloc (Nat.le_refl _) _)
    have HO : Hid ((w1.alloc (Obj.cells #[] 50)).ownsRow w1.heap.size 50 2 (.slice (some ⟨w1.heap.size, 0, none⟩) 0 0) 0 []) := World.ownsRow_made w1 #[] 0 (Nat.le_refl _) (by unfold maxLen; omega) rfl
    go_wp2_with (at_builtin; refine wpList_append_src (by rfl) _ _ 51 (by rfl) w1.heap.size 50 i0 (.agg #[.int .u64 0, .string ByteArray.empty]) 2 24 Try.underlying51 hii hz0 hz1 hz2 rfl (by omega) (.slice (some ⟨w1.heap.size, 0, none⟩) 0 0) 0 [] (by rfl) HO.out (.slice A s.out.length c) s.out.length (rflat s.out) (by rfl) HSRC.out (by unfold maxLen; omega) (by omega) (by simp) ?_)
    intro v1 w2 hown hgrow hat
    try simp only [Nat.zero_add, List.nil_append] at hown
    have hm2 : Mod (fun _ => False) w1 w2 := ((Mod.refl (fun _ => False) w1).alloc _).grown hgrow (fun k hk => by cases hk; exact Nat.le_refl _)
    have HE : Hid (RDid w R pr { s with p := s.p.tick.1 } (if true = true then s.out else []) idV (.returned v1) w2) :=
      ⟨v1, rfl, RowOf.of_own hown, ⟨_, _, HS1.out.same hm2⟩, HM1.out.trans (hm2.mono (fun _ _ x => x.elim))⟩
    clear hown hgrow hat hm2
    go_wp2
    go_ret
    exact HE.out
end Go.Proofs.Ytcgfbbfepopinaa
