/-
  Package ship: the ship as it lies in memory; its small methods.
-/
import Derived.Test.YtcgfbbfepopinaaShipA
namespace Go.Proofs.Ytcgfbbfepopinaa
open Go.RowKit Go.Shoal

/-- Blocks of these types are as they were. -/
def KeepT (ts : List Nat) (w w' : World) : Prop := ∀ (k : Nat) (cs : Array Value) (t : Nat), t ∈ ts → w.heap[k]? = some (.cells cs t (0, 0)) → w'.heap[k]? = some (.cells cs t (0, 0))
section
variable {ts us : List Nat} {w w' w'' : World}
theorem KeepT.refl (ts : List Nat) (w : World) : KeepT ts w w := fun _ _ _ _ h => h
theorem KeepT.trans (h : KeepT ts w w') (k : KeepT ts w' w'') : KeepT ts w w'' := fun i cs t ht hc => k i cs t ht (h i cs t ht hc)
theorem KeepT.mono (h : KeepT ts w w') (hs : ∀ t ∈ us, t ∈ ts) : KeepT us w w' := fun i cs t ht hc => h i cs t (hs t ht) hc
theorem KeepT.alloc (ts : List Nat) (w : World) (o : Obj) : KeepT ts w (w.alloc o) := fun _ _ _ _ h => blk_alloc h o
theorem KeepT.drew (ts : List Nat) (w : World) : KeepT ts w w.drew := fun _ _ _ _ h => h
theorem KeepT.set {p : Addr} {cs : Array Value} {t : Nat} (hb : w.heap[p.block]? = some (.cells cs t (0, 0))) (ht : t ∉ ts) (u : Value) : KeepT ts w (w.setCell p u) := fun _ _ _ ht' h => blk_far h (blk_ne h hb (fun e => ht (e ▸ ht'))) u
theorem KeepT.mod {S : Nat → Prop} (hm : Mod S w w') (hs : ∀ k cs t, w.heap[k]? = some (.cells cs t (0, 0)) → S k → t ∉ ts) : KeepT ts w w' := fun k cs t ht h => hm.blk h (fun hS => hs k cs t h hS ht)
theorem KeepT.grown {row : Option Nat} (hg : w.grownBy w' row) (hs : ∀ k, row = some k → ∃ cs t, w.heap[k]? = some (.cells cs t (0, 0)) ∧ t ∉ ts) : KeepT ts w w' := fun k cs t ht h =>
  (hg.block k (blk_lt h) (fun e => by
    obtain ⟨cs', t', h', ht'⟩ := hs k e.symm
    rw [h] at h'
    cases h'
    exact ht' ht)).trans h
theorem RowOf.keepT {e : Nat} {size n : Nat} {v : Value} {xs : List Value} (h : RowOf w e size v n xs) (hk : KeepT ts w w') (he : e ∈ ts) : RowOf w' e size v n xs :=
  h.keep fun b hb => by
    obtain ⟨cur, hc⟩ := h.block hb
    rw [hk b cur e he hc, hc]
end
theorem BytesAt.keepT {N : Nat → Prop} {ts : List Nat} {w w' : World} {v : Value} {s : ByteArray} (h : BytesAt N w v s) (hk : KeepT ts w w') (he : 5 ∈ ts) : BytesAt N w' v s := ⟨RowOf.keepT h.1 hk he, h.2⟩
theorem ItemsAt.keepT {N : Nat → Prop} {ts : List Nat} {w w' : World} {v : Value} {l : List It} (h : ItemsAt N w v l) (hk : KeepT ts w w') (he : 5 ∈ ts) (hi : 45 ∈ ts) : ItemsAt N w' v l := by
  obtain ⟨l', h1, h2, h3⟩ := h
  exact ⟨l', h1, RowOf.keepT h2 hk hi, fun p hp => (h3 p hp).keepT hk he⟩
theorem PaceAt.keepT {ts : List Nat} {w w' : World} {b : Nat} {p : Pc} (h : PaceAt w b p) (hk : KeepT ts w w') (he : 76 ∈ ts) : PaceAt w' b p := hk b _ _ he h
/-- A slice of bodies. -/
def BodiesAt (N : Nat → Prop) (w : World) (v : Value) (ws : List ByteArray) : Prop :=
  ∃ l' : List (ByteArray × Value), l'.map (·.1) = ws ∧ RowOf w 31 1 v ws.length (l'.map (·.2)) ∧ ∀ p ∈ l', BytesAt N w p.2 p.1
theorem BodiesAt.keepT {N : Nat → Prop} {ts : List Nat} {w w' : World} {v : Value} {l : List ByteArray} (h : BodiesAt N w v l) (hk : KeepT ts w w') (he : 5 ∈ ts) (hi : 31 ∈ ts) : BodiesAt N w' v l := by
  obtain ⟨l', h1, h2, h3⟩ := h
  exact ⟨l', h1, RowOf.keepT h2 hk hi, fun p hp => (h3 p hp).keepT hk he⟩
theorem bodies_one {N : Nat → Prop} {w : World} {l : List (ByteArray × Value)} (h : ∀ p ∈ l, BytesAt N w p.2 p.1) : ∀ u ∈ l.map (·.2), u.oneCell' = true := by
  intro u hu
  obtain ⟨p, hp, rfl⟩ := List.mem_map.1 hu
  exact (h p hp).one

/-- A ship, as data. -/
structure Shp where
  win : Nat
  que : Nat
  p : Pc
  out : List It
  waits : List ByteArray
  last : Nat
def anyN : Nat → Prop := fun _ => True
/-- What a ship has beside its own block. -/
def ShipRest (w : World) (pb : Nat) (ov wv : Value) (s : Shp) : Prop := PaceAt w pb s.p ∧ ItemsAt anyN w ov s.out ∧ BodiesAt anyN w wv s.waits
/-- A ship lies at block B. -/
def ShipAt (w : World) (B pb : Nat) (ov wv : Value) (s : Shp) : Prop :=
  w.heap[B]? = some (.cells #[.int .i64 s.win, .int .i64 s.que, .pointer (some ⟨pb, 0, none⟩), ov, wv, .int .u64 s.last] 69 (0, 0)) ∧ ShipRest w pb ov wv s
/-- Where a ship writes. -/
def Foot (B pb : Nat) (ov wv : Value) : Nat → Prop := fun k => k = B ∨ k = pb ∨ ov.ownBlock = some k ∨ wv.ownBlock = some k
def restT : List Nat := [5, 45, 31, 76]
theorem ShipRest.keepT {ts : List Nat} {w w' : World} {pb : Nat} {ov wv : Value} {s : Shp} (h : ShipRest w pb ov wv s) (hk : KeepT ts w w') (h1 : 5 ∈ ts) (h2 : 45 ∈ ts) (h3 : 31 ∈ ts) (h4 : 76 ∈ ts) : ShipRest w' pb ov wv s :=
  ⟨h.1.keepT hk h4, h.2.1.keepT hk h1 h2, h.2.2.keepT hk h1 h3⟩
theorem ShipRest.alloc {w : World} {pb : Nat} {ov wv : Value} {s : Shp} (h : ShipRest w pb ov wv s) (o : Obj) : ShipRest (w.alloc o) pb ov wv s := h.keepT (KeepT.alloc restT w o) (by decide) (by decide) (by decide) (by decide)
theorem ShipAt.keepT {ts : List Nat} {w w' : World} {B pb : Nat} {ov wv : Value} {s : Shp} (h : ShipAt w B pb ov wv s) (hk : KeepT ts w w') (h1 : 5 ∈ ts) (h2 : 45 ∈ ts) (h3 : 31 ∈ ts) (h4 : 76 ∈ ts) (h5 : 69 ∈ ts) : ShipAt w' B pb ov wv s :=
  ⟨hk _ _ _ h5 h.1, h.2.keepT hk h1 h2 h3 h4⟩
theorem ShipAt.none {w w' : World} {B pb : Nat} {ov wv : Value} {s : Shp} (h : ShipAt w B pb ov wv s) (hm : Mod (fun _ => False) w w') : ShipAt w' B pb ov wv s :=
  h.keepT (ts := [5, 45, 31, 76, 69]) (KeepT.mod hm (fun _ _ _ _ x => x.elim)) (by decide) (by decide) (by decide) (by decide) (by decide)
theorem ShipAt.foot {w : World} {B pb : Nat} {ov wv : Value} {s : Shp} (h : ShipAt w B pb ov wv s) : ∀ k cs t, w.heap[k]? = some (.cells cs t (0, 0)) → Foot B pb ov wv k → t = 69 ∨ t = 76 ∨ t = 45 ∨ t = 31 := by
  intro k cs t hk hF
  obtain ⟨hB, hp, ⟨l1, _, h1, _⟩, ⟨l2, _, h2, _⟩⟩ := h
  rcases hF with rfl | rfl | hF | hF
  · rw [hB] at hk; cases hk; exact .inl rfl
  · unfold PaceAt at hp; rw [hp] at hk; cases hk; exact .inr (.inl rfl)
  · obtain ⟨cur, hc⟩ := h1.block hF
    rw [hc] at hk; cases hk; exact .inr (.inr (.inl rfl))
  · obtain ⟨cur, hc⟩ := h2.block hF
    rw [hc] at hk; cases hk; exact .inr (.inr (.inr rfl))
theorem ShipAt.foot_lt {w : World} {B pb : Nat} {ov wv : Value} {s : Shp} (h : ShipAt w B pb ov wv s) : ∀ k, Foot B pb ov wv k → k < w.heap.size := by
  intro k hF
  obtain ⟨hB, hp, ⟨l1, _, h1, _⟩, ⟨l2, _, h2, _⟩⟩ := h
  rcases hF with rfl | rfl | hF | hF
  · exact blk_lt hB
  · exact blk_lt hp
  · exact h1.lt hF
  · exact h2.lt hF

def Shp.room (s : Shp) (reply : Bool) : Bool := if reply then decide (s.waits.length < s.que) else decide (s.waits.length + 1 < s.que)
set_option maxHeartbeats 400000 in
theorem room_any (w : World) (B pb : Nat) (ov wv : Value) (s : Shp) (b : Bool) (h : ShipAt w B pb ov wv s) (hq : 2 ≤ s.que ∧ s.que ≤ 32) :
    Calls Try.prog 18 #[.pointer (some ⟨B, 0, none⟩), .bool b] w fun e w' => e = .returned (.bool (s.room b)) ∧ ∃ n, w' = w.drewN n := by
  obtain ⟨hB, _, _, ⟨l2, _, h2, _⟩⟩ := h
  obtain ⟨A, c, rfl⟩ := h2.form
  have c1 := (blk_cell hB 1).trans rfl
  have c4 := (blk_cell hB 4).trans rfl
  obtain ⟨q1, q2⟩ := hq
  have HE : Hid (∀ x : Bool, x = s.room b → ∀ n, Ending.returned (.bool x) = .returned (.bool (s.room b)) ∧ ∃ m, w.drewN n = w.drewN m) := fun x hx n => ⟨by rw [hx], n, rfl⟩
  clear hB h2
  cases b
  · go_enter Try.func18, Try.ntmps18
    go_wp2
    go_quiet (fail)
    go_wp2
    go_ret
    refine HE.out _ ?_ _
    show _ = decide (s.waits.length + 1 < s.que)
    exact decide_eq_decide.2 (by omega)
  · go_enter Try.func18, Try.ntmps18
    go_wp2
    go_quiet (fail)
    go_wp2
    go_ret
    refine HE.out _ ?_ _
    show _ = decide (s.waits.length < s.que)
    exact decide_eq_decide.2 (by omega)
theorem last_any (w : World) (B pb : Nat) (ov wv : Value) (s : Shp) (h : ShipAt w B pb ov wv s) : Calls Try.prog 13 #[.pointer (some ⟨B, 0, none⟩)] w fun e w' => e = .returned (.int .u64 s.last) ∧ w = w' := by
  have c5 := (blk_cell h.1 5).trans rfl
  clear h
  go_enter Try.func13, Try.ntmps13
  go_wp2
  go_ret
  exact ⟨rfl, rfl⟩
theorem left_any (w : World) (B pb : Nat) (ov wv : Value) (s : Shp) (h : ShipAt w B pb ov wv s) : Calls Try.prog 14 #[.pointer (some ⟨B, 0, none⟩)] w fun e w' => e = .returned (.tuple #[.int .i64 s.p.left, .bool (decide (0 < s.p.left))]) ∧ ∃ n, w' = w.drewN n := by
  have HP := Lib.hid (pace_left_any w pb s.p h.2.1)
  have c2 := (blk_cell h.1 2).trans rfl
  clear h
  go_enter Try.func14, Try.ntmps14
  go_wp2_with fail
  refine HP.out.mono ?_
  rintro e w1 ⟨rfl, n, hn⟩
  have HN := Lib.hid hn
  clear hn
  go_wp2
  go_ret2
  exact ⟨rfl, n, HN.out⟩
/-- Bodies and rows within what may be. -/
def Shp.Fit (s : Shp) : Prop := s.out.length ≤ 16 ∧ s.waits.length ≤ 32 ∧ (∀ x ∈ s.out, x.body.size ≤ 1000) ∧ (∀ x ∈ s.waits, x.size ≤ 1000) ∧ s.last ≤ 1000000
theorem out_any (w : World) (B pb : Nat) (ov wv : Value) (s : Shp) (h : ShipAt w B pb ov wv s) (hf : s.Fit) : Calls Try.prog 11 #[.pointer (some ⟨B, 0, none⟩)] w (Told w s.out) := by
  have HT := Lib.hid (told_any anyN ov s.out w h.2.2.1 (Nat.le_trans hf.1 (by decide)) hf.2.2.1)
  have c3 := (blk_cell h.1 3).trans rfl
  obtain ⟨l1, _, h1, _⟩ := h.2.2.1
  obtain ⟨A, c, rfl⟩ := h1.form
  clear h h1 hf
  go_enter Try.func11, Try.ntmps11
  go_wp2_with fail
  refine HT.out.mono ?_
  rintro e w1 ⟨v, rfl, hv⟩
  have HV : Hid (Told w s.out (.returned v) w1) := ⟨v, rfl, hv⟩
  clear hv
  go_wp2
  go_ret
  exact HV.out
/-- What Tick leaves. -/
def TickEnd (w : World) (B pb : Nat) (ov wv : Value) (s : Shp) (e : Ending) (w' : World) : Prop :=
  ∃ v, e = .returned v ∧ ShipAt w' B pb ov wv { s with p := s.p.tick.1 } ∧ Mod (· = pb) w w' ∧ ItemsAt (fun q => w.heap.size ≤ q) w' v (if s.p.tick.2 then s.out else []) ∧ ∀ q, v.ownBlock = some q → w.heap.size ≤ q
theorem ShipAt.pace {w w1 : World} {B pb : Nat} {ov wv : Value} {s : Shp} {q : Pc} (h : ShipAt w B pb ov wv s) (hq : PaceAt w1 pb q) (hm : Mod (· = pb) w w1) : ShipAt w1 B pb ov wv { s with p := q } := by
  have hp : PaceAt w pb s.p := h.2.1
  unfold PaceAt at hp
  have hk : KeepT [5, 45, 31, 69] w w1 := KeepT.mod hm (fun k cs t hc e => by subst e; rw [hp] at hc; cases hc; decide)
  exact ⟨hk _ _ _ (by decide) h.1, hq, h.2.2.1.keepT hk (by decide) (by decide), h.2.2.2.keepT hk (by decide) (by decide)⟩
set_option maxHeartbeats 1000000 in
theorem tick_any (w : World) (B pb : Nat) (ov wv : Value) (s : Shp) (h : ShipAt w B pb ov wv s) (hf : s.Fit) (ok : s.p.Ok) (hr : 0 ≤ s.p.rings ∧ s.p.rings ≤ 1000000) :
    Calls Try.prog 16 #[.pointer (some ⟨B, 0, none⟩)] w (TickEnd w B pb ov wv s) := by
  have HT := pace_tick_any w pb s.p h.2.1 ok hr
  unfold Ticks at HT
  have c2 := (blk_cell h.1 2).trans rfl
  have HH := Lib.hid h
  have HF := Lib.hid hf
  clear h hf ok hr
  cases ht : s.p.tick.2
  · rw [ht] at HT
    have HT' := Lib.hid HT
    have HQ := Lib.hid ht
    clear HT ht
    go_enter Try.func16, Try.ntmps16
    go_wp2_with fail
    refine HT'.out.mono ?_
    rintro e w1 ⟨rfl, hp, hm⟩
    have HE : Hid (TickEnd w B pb ov wv s (.returned (.slice none 0 0)) w1) := ⟨_, rfl, HH.out.pace hp hm, hm, (by rw [HQ.out, if_neg (by decide)]; exact ⟨[], rfl, RowOf.nil _ _ _, fun p hp => (by cases hp)⟩), fun q hq => (by cases hq)⟩
    clear hp hm
    go_wp2
    go_ret
    exact HE.out
  · rw [ht] at HT
    have HT' := Lib.hid HT
    have HQ := Lib.hid ht
    clear HT ht
    go_enter Try.func16, Try.ntmps16
    go_wp2_with fail
    refine HT'.out.mono ?_
    rintro e w1 ⟨rfl, hp, hm⟩
    have HS := Lib.hid (HH.out.pace hp hm)
    have HM := Lib.hid hm
    have HT2 := Lib.hid (told_any anyN ov s.out w1 HS.out.2.2.1 (Nat.le_trans HF.out.1 (by decide)) HF.out.2.2.1)
    have c3 := (blk_cell HS.out.1 3).trans rfl
    obtain ⟨l1, _, h1, _⟩ := HS.out.2.2.1
    obtain ⟨A, c, rfl⟩ := h1.form
    clear hp hm h1
    go_wp2_with fail
    refine HT2.out.mono ?_
    rintro e w2 ⟨v, rfl, hv⟩
    have HE : Hid (TickEnd w B pb _ wv s (.returned v) w2) := ⟨v, rfl, HS.out.none hv.2.2, HM.out.trans' hv.2.2 (fun _ _ x => x.elim), (by rw [HQ.out, if_pos rfl]; have := hv.1; rw [List.take_length] at this; exact this.mono (fun q _ hq => Nat.le_trans HM.out.size hq)), fun q hq => Nat.le_trans HM.out.size (hv.2.1 q hq)⟩
    clear hv
    go_wp2
    go_ret
    exact HE.out
/-- While Waits tells. -/
def WaitsRel (w : World) (l : List ByteArray) (k : Nat) (v : Value) (wr : World) : Prop :=
  BodiesAt (fun q => w.heap.size ≤ q) wr v (l.take k) ∧ (∀ q, v.ownBlock = some q → w.heap.size ≤ q) ∧ Mod (fun _ => False) w wr
def WaitsEnd (w : World) (l : List ByteArray) (e : Ending) (w' : World) : Prop := ∃ v, e = .returned v ∧ WaitsRel w l l.length v w'
theorem Try.infoBytes : (Try.prog.info? 31).map (fun i => (i.zero, i.size, i.bytes)) = some (some (.slice none 0 0), 1, 24) := by kernel_rfl
end Go.Proofs.Ytcgfbbfepopinaa
