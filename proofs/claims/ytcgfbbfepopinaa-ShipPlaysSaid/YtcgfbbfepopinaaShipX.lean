/-
  ShipPlays: both ships side by side.
-/
import Derived.Test.YtcgfbbfepopinaaShipW
namespace Go.Proofs.Ytcgfbbfepopinaa
open Go.RowKit Go.Shoal

theorem numbered_srt : ∀ (l : List ByteArray) (n : Nat), Srt (numbered n l)
  | [], _ => List.Pairwise.nil
  | b :: r, n => by
    refine List.pairwise_cons.2 ⟨fun y hy => ?_, numbered_srt r (n + 1)⟩
    have := (numbered_mem hy).1
    exact this
theorem Srt.filled {s : Shp} (h : Srt s.out) (hn : ∀ x ∈ s.out, x.num ≤ s.last) : Srt s.filled.out := by
  show Srt (s.out ++ s.news)
  refine List.pairwise_append.2 ⟨h, numbered_srt _ _, fun a ha b hb => ?_⟩
  have h1 := hn a ha
  have h2 := (numbered_mem hb).1
  omega
theorem start_pos {p : Pc} (h : p.Ok) : 0 < p.start.left := by
  have h1 := h.f1
  have h2 := h.fs
  have h3 := h.l0
  unfold Pc.start
  split
  · show 0 < p.step; omega
  · omega
theorem filled_busy {s : Shp} (h : s.p.Ok) : s.filled.out ≠ [] → 0 < s.filled.p.left := fun hn => by
  have hn : (s.fillN s.goes).out ≠ [] := hn
  show 0 < (if (s.fillN s.goes).out = [] then s.p else s.p.start).left
  rw [if_neg hn]
  exact start_pos h
/-- What holds of both behind k calls. -/
structure PlSt (win que k : Nat) (s : Shp) : Prop where
  ord : ∃ inl, Ord win que k inl s
  srt : Srt s.out
  busy : s.out ≠ [] → 0 < s.p.left
section
variable {win que k : Nat} {s : Shp}
theorem PlSt.put (h : PlSt win que k s) {x : ByteArray} (hx : x.size ≤ 50) (hr : s.waits.length < s.que) : PlSt win que (k + 1) (s.put x).filled := by
  obtain ⟨inl, ho⟩ := h.ord
  exact ⟨⟨_, (ho.put hx hr).1⟩, Srt.filled (s := s.put x) h.srt ho.inv.nums, filled_busy (s := s.put x) ho.ok⟩
theorem PlSt.ack (h : PlSt win que k s) (n : Nat) : PlSt win que (k + 1) (s.acked n).filled := by
  obtain ⟨inl, ho⟩ := h.ord
  exact ⟨⟨_, (ho.ack n).1⟩, Srt.filled (s := s.acked n) (List.Pairwise.sublist (List.filter_sublist ..) h.srt) (fun x hx => ho.inv.nums x (List.mem_filter.1 hx).1), filled_busy (s := s.acked n) (Pc.stop_ok ho.ok)⟩
theorem PlSt.same (h : PlSt win que k s) : PlSt win que (k + 1) s := by
  obtain ⟨inl, ho⟩ := h.ord
  exact ⟨⟨_, ho.same⟩, h.srt, h.busy⟩
theorem PlSt.tick (h : PlSt win que k s) : PlSt win que (k + 1) { s with p := s.p.tick.1 } := by
  obtain ⟨inl, ho⟩ := h.ord
  refine ⟨⟨_, ho.tick⟩, h.srt, fun hn => ?_⟩
  have hb := h.busy hn
  have h1 := ho.ok.f1
  have h2 := ho.ok.fs
  have h3 := ho.ok.sm
  show 0 < s.p.tick.1.left
  unfold Pc.tick
  rw [if_neg (by omega)]
  split
  · show 0 < s.p.left - 1; omega
  · show 0 < min (s.p.step * 2) s.p.most; omega
theorem PlSt.fit (h : PlSt win que k s) (h1 : win ≤ 16) (h2 : que ≤ 32) (h3 : k ≤ 200) : s.Fit := by
  obtain ⟨inl, ho⟩ := h.ord
  exact ho.fit h1 h2 h3
theorem PlSt.wins (h : PlSt win que k s) : s.win = win ∧ s.que = que := by
  obtain ⟨inl, ho⟩ := h.ord
  exact ⟨ho.win_eq, ho.que_eq⟩
theorem PlSt.ok (h : PlSt win que k s) : s.p.Ok := by
  obtain ⟨inl, ho⟩ := h.ord
  exact ho.ok
theorem PlSt.rings (h : PlSt win que k s) (hk : k ≤ 200) : 0 ≤ s.p.rings ∧ s.p.rings ≤ 1000000 := by
  obtain ⟨inl, ho⟩ := h.ord
  have := ho.r1
  exact ⟨ho.r0, by omega⟩
end
theorem room_lt {s : Shp} {b : Bool} (h : s.room b = true) : s.waits.length < s.que := by
  cases b
  · have h9 : decide (s.waits.length + 1 < s.que) = true := h
    have := of_decide_eq_true h9
    omega
  · have h9 : decide (s.waits.length < s.que) = true := h
    exact of_decide_eq_true h9
theorem put_fit {s : Shp} (h : s.Fit) (hr : s.waits.length < s.que) (hq : s.que ≤ 32) {x : ByteArray} (hx : x.size ≤ 50) : (s.put x).Fit := by
  refine ⟨h.1, ?_, h.2.2.1, fun y hy => ?_, h.2.2.2.2⟩
  · show (s.waits ++ [x]).length ≤ 32
    rw [List.length_append]; simp; omega
  · rcases List.mem_append.1 hy with hy | hy
    · exact h.2.2.2.1 y hy
    · rw [List.mem_singleton.1 hy]; omega
theorem Sails.past {base B pb : Nat} {w0 w w' : World} {s : Shp} {rs : List (Value × List It)} {S : Nat → Prop} (h : Sails base B pb w0 s rs w) (hm : Mod S w w') (hS : ∀ k, S k → base ≤ k) (hk : KeepT (5 :: footT) w w') : Sails base B pb w0 s rs w' := by
  have hz := h.size
  obtain ⟨ov, wv, a1, a2, a3, a4⟩ := h
  exact ⟨ov, wv, a1.keepT hk (by decide) (by decide) (by decide) (by decide) (by decide), a2, hm.then_below a3 hS hz, fun r hr => ⟨(a4 r hr).1.keepT hk (by decide) (by decide), (a4 r hr).2⟩⟩
theorem RShip.keeps {w w' : World} {R pr : Nat} {s : Shp} (h : RShip w R pr s) (ts : List Nat) (hts : ∀ t ∈ ts, t ≠ 61 ∧ t ≠ 63) (hm : Mod (fun k => k = R ∨ k = pr) w w') : KeepT ts w w' := by
  obtain ⟨ov, wv, h⟩ := h
  refine KeepT.mod hm fun k cs t hc e ht => ?_
  rcases e with rfl | rfl
  · rw [h.top] at hc
    cases hc
    exact (hts _ ht).1 rfl
  · have hp := h.pace
    unfold RefOk RefAt at hp
    rw [hp] at hc
    cases hc
    exact (hts _ ht).2 rfl
/-- Both ships. -/
structure PlW (base B R pr : Nat) (w1 : World) (s : Shp) (w : World) : Prop where
  sail : Sails base B base w1 s [] w
  ref : RShip w R pr s
  rb : base ≤ R
  pb : base ≤ pr
/-- The program's call is made, the reference's is not yet. -/
structure PHalf (base B R pr : Nat) (w1 : World) (s s' : Shp) (va : Value) (l : List It) (w : World) : Prop where
  sail : Sails base B base w1 s' [(va, l)] w
  ref : RShip w R pr s
  rb : base ≤ R
  pb : base ≤ pr
section
variable {base B R pr : Nat} {w1 w w' : World} {s s' : Shp} {va : Value} {l : List It}
theorem PlW.same (h : PlW base B R pr w1 s w) (hm : Mod (fun _ => False) w w') : PlW base B R pr w1 s w' := ⟨h.sail.none' hm, h.ref.same hm, h.rb, h.pb⟩
theorem PHalf.same (h : PHalf base B R pr w1 s s' va l w) (hm : Mod (fun _ => False) w w') : PHalf base B R pr w1 s s' va l w' := ⟨h.sail.none' hm, h.ref.same hm, h.rb, h.pb⟩
theorem PHalf.past (h : PHalf base B R pr w1 s s' va l w) (hm : Mod (fun k => k = R ∨ k = pr) w w') : Sails base B base w1 s' [(va, l)] w' := by
  have h1 := h.rb
  have h2 := h.pb
  exact h.sail.past hm (fun k e => by rcases e with rfl | rfl <;> assumption) (h.ref.keeps _ (by decide) hm)
def actT : List Nat := [43]
/-- What the program's call leaves. -/
def PCalled (base B R pr : Nat) (w1 : World) (s s' : Shp) (l : List It) (mk : Value → Value) (w : World) (e : Ending) (w' : World) : Prop :=
  ∃ A c, e = .returned (mk (.slice A l.length c)) ∧ PHalf base B R pr w1 s s' (.slice A l.length c) l w' ∧ KeepT actT w w'
/-- What the reference's call leaves. -/
def PDone (base B R pr : Nat) (w1 : World) (s' : Shp) (va : Value) (l : List It) (mk : Value → Value) (w : World) (e : Ending) (w' : World) : Prop :=
  ∃ rv, e = .returned (mk rv) ∧ PlW base B R pr w1 s' w' ∧ (∃ N, ItemsAt N w' va l) ∧ RItemsAt w' rv l ∧ KeepT actT w w'
theorem done_of {e : Ending} {mk : Value → Value} (h : PHalf base B R pr w1 s s' va l w) (hd : RDid w R pr s' l mk e w') : PDone base B R pr w1 s' va l mk w e w' := by
  obtain ⟨rv, he, hi, hr, hm⟩ := hd
  have hs := h.past hm
  exact ⟨rv, he, ⟨hs.less (fun r hr => by cases hr), hr, h.rb, h.pb⟩, hs.safe (r := (va, l)) (by simp), hi, h.ref.keeps _ (by decide) hm⟩
theorem keep_ref {w w' : World} {ts : List Nat} (h : KeepT ts w w') (hs : ∀ t ∈ refT, t ∈ ts) (hr : RShip w R pr s) : RShip w' R pr s := hr.keepT h hs
theorem pl_push (h : PlW base B R pr w1 s w) (v : Value) (b : Bool) (x : ByteArray) (hf : s.Fit) (hq : 2 ≤ s.que ∧ s.que ≤ 32) (hw : s.win ≤ 16) (hr : s.room b = true) (hv : SrcOk w v x.size 1 (byteCells x)) (hx : x.size ≤ 50) :
    Calls Try.prog 10 #[.pointer (some ⟨B, 0, none⟩), v, .bool b] w (PCalled base B R pr w1 s (s.put x).filled (s.put x).news pair w) :=
  (sail_push' (refT ++ actT) h.sail (by decide) v b x hf hq hw hr hv (by omega)).mono fun e w' ⟨⟨A, c, he, hs⟩, hk⟩ =>
    ⟨A, c, he, ⟨hs, h.ref.keepT hk (by decide), h.rb, h.pb⟩, hk.mono (by decide)⟩
theorem pl_rpush {x : ByteArray} (h : PHalf base B R pr w1 s (s.put x).filled va (s.put x).news w) (b : Bool) (hf : s.Fit) (hq : 2 ≤ s.que ∧ s.que ≤ 32) (hw : s.win ≤ 16) (hr : s.room b = true) (hx : x.size ≤ 50) (hb : s.out ≠ [] → 0 < s.p.left) (ok : s.p.Ok) :
    Calls Try.prog 21 #[.pointer (some ⟨R, 0, none⟩), .string x, .bool b] w (PDone base B R pr w1 (s.put x).filled va (s.put x).news pair w) :=
  (rpush_yes w R pr s b x h.ref hf (put_fit hf (room_lt hr) hq.2 hx) hq hw hr hb ok).mono fun _ _ hd => done_of h hd
theorem pl_ack (h : PlW base B R pr w1 s w) (n : Nat) (hf : s.Fit) (hw : s.win ≤ 16) (hn : s.hears n) :
    Calls Try.prog 12 #[.pointer (some ⟨B, 0, none⟩), .int .u64 n] w (PCalled base B R pr w1 s (s.acked n).filled (s.acked n).news idV w) :=
  (sail_ack' (refT ++ actT) h.sail (by decide) n hf hw hn).mono fun e w' ⟨⟨A, c, he, hs⟩, hk⟩ =>
    ⟨A, c, he, ⟨hs, h.ref.keepT hk (by decide), h.rb, h.pb⟩, hk.mono (by decide)⟩
theorem pl_rack {n : Nat} (h : PHalf base B R pr w1 s (s.acked n).filled va (s.acked n).news w) (hf : s.Fit) (hw : s.win ≤ 16) (hn : s.hears n) (hs : Srt s.out) (ok : s.p.Ok) :
    Calls Try.prog 22 #[.pointer (some ⟨R, 0, none⟩), .int .u64 n] w (PDone base B R pr w1 (s.acked n).filled va (s.acked n).news idV w) :=
  (rack_yes w R pr s n h.ref hf hw hn hs ok).mono fun _ _ hd => done_of h hd
theorem pl_ack_no (h : PlW base B R pr w1 s w) (n : Nat) (hn : s.out = [] ∨ ∃ x r, s.out = x :: r ∧ (n < x.num ∨ s.last < n)) :
    Calls Try.prog 12 #[.pointer (some ⟨B, 0, none⟩), .int .u64 n] w (PCalled base B R pr w1 s s [] idV w) :=
  (sail_ack_no' (refT ++ actT) h.sail n hn).mono fun e w' ⟨⟨he, hs⟩, hk⟩ => ⟨none, 0, he, ⟨hs.nil, h.ref.keepT hk (by decide), h.rb, h.pb⟩, hk.mono (by decide)⟩
theorem pl_rack_no (h : PHalf base B R pr w1 s s va [] w) (n : Nat) (hn : s.out = [] ∨ ∃ x r, s.out = x :: r ∧ (n < x.num ∨ s.last < n)) :
    Calls Try.prog 22 #[.pointer (some ⟨R, 0, none⟩), .int .u64 n] w (PDone base B R pr w1 s va [] idV w) :=
  (rack_no w R pr s n h.ref hn).mono fun _ _ ⟨he, hw⟩ => done_of h ⟨.slice none 0 0, he, RowOf.nil _ _ _, hw ▸ h.ref, hw ▸ Mod.refl _ _⟩
theorem pl_tick (h : PlW base B R pr w1 s w) (hf : s.Fit) (ok : s.p.Ok) (hr : 0 ≤ s.p.rings ∧ s.p.rings ≤ 1000000) :
    Calls Try.prog 16 #[.pointer (some ⟨B, 0, none⟩)] w (PCalled base B R pr w1 s { s with p := s.p.tick.1 } (if s.p.tick.2 then s.out else []) idV w) :=
  (sail_tick' (refT ++ actT) h.sail (by decide) hf ok hr).mono fun e w' ⟨⟨A, c, he, hs⟩, hk⟩ =>
    ⟨A, c, he, ⟨hs, h.ref.keepT hk (by decide), h.rb, h.pb⟩, hk.mono (by decide)⟩
theorem pl_rtick (h : PHalf base B R pr w1 s { s with p := s.p.tick.1 } va (if s.p.tick.2 then s.out else []) w) (hf : s.Fit) (ok : s.p.Ok) (hr : 0 ≤ s.p.rings ∧ s.p.rings ≤ 1000000) :
    Calls Try.prog 23 #[.pointer (some ⟨R, 0, none⟩)] w (PDone base B R pr w1 { s with p := s.p.tick.1 } va (if s.p.tick.2 then s.out else []) idV w) :=
  (rtick_any w R pr s h.ref hf ok hr).mono fun _ _ hd => done_of h hd
theorem pl_push_no (h : PlW base B R pr w1 s w) (v : Value) (b : Bool) (hq : 2 ≤ s.que ∧ s.que ≤ 32) (hr : s.room b = false) :
    Calls Try.prog 10 #[.pointer (some ⟨B, 0, none⟩), v, .bool b] w fun e w' => e = .returned (.tuple #[.slice none 0 0, .bool false]) ∧ PlW base B R pr w1 s w' ∧ KeepT actT w w' :=
  (sail_push_no' (refT ++ actT) h.sail v b hq hr).mono fun e w' ⟨⟨he, hs⟩, hk⟩ => ⟨he, ⟨hs, h.ref.keepT hk (by decide), h.rb, h.pb⟩, hk.mono (by decide)⟩
theorem pl_rpush_no (h : PlW base B R pr w1 s w) (b : Bool) (x : ByteArray) (hq : 2 ≤ s.que ∧ s.que ≤ 32) (hr : s.room b = false) :
    Calls Try.prog 21 #[.pointer (some ⟨R, 0, none⟩), .string x, .bool b] w fun e w' => e = .returned (.tuple #[.slice none 0 0, .bool false]) ∧ PlW base B R pr w1 s w' :=
  (rpush_no w R pr s b x h.ref hq hr).mono fun _ _ ⟨he, n, hw⟩ => ⟨he, hw ▸ h.same ((Mod.refl _ _).drewN n)⟩
theorem items_nil (w : World) : Calls Try.prog 17 #[.slice none 0 0, .slice none 0 0] w (ItemsEnd w) :=
  items_same (fun _ => True) w _ _ [] ⟨[], rfl, RowOf.nil _ _ _, fun p hp => by cases hp⟩ (RowOf.nil _ _ _) (by decide)
theorem pl_left (h : PlW base B R pr w1 s w) : Calls Try.prog 14 #[.pointer (some ⟨B, 0, none⟩)] w fun e w' => e = .returned (.tuple #[.int .i64 s.p.left, .bool (decide (0 < s.p.left))]) ∧ PlW base B R pr w1 s w' := by
  have h' := h
  obtain ⟨⟨ov, wv, a1, _⟩, _⟩ := h
  exact (left_any w B base ov wv s a1).mono fun e w' ⟨he, n, hn⟩ => ⟨he, hn ▸ h'.same ((Mod.refl _ _).drewN n)⟩
def PWaits (base B R pr : Nat) (w1 : World) (s : Shp) (e : Ending) (w' : World) : Prop := ∃ A c, e = .returned (.slice A s.waits.length c) ∧ (∃ N, BodiesAt N w' (.slice A s.waits.length c) s.waits) ∧ PlW base B R pr w1 s w'
theorem pl_waits (h : PlW base B R pr w1 s w) (hf : s.Fit) : Calls Try.prog 15 #[.pointer (some ⟨B, 0, none⟩)] w (PWaits base B R pr w1 s) := by
  have h' := h
  obtain ⟨⟨ov, wv, a1, _⟩, _⟩ := h
  refine (waits_any w B base ov wv s a1 hf).mono fun e w' hT => ?_
  obtain ⟨v, he, hb, _, h3⟩ := hT
  rw [List.take_length] at hb
  obtain ⟨A, c, rfl⟩ : ∃ A c, v = .slice A s.waits.length c := by
    obtain ⟨l', _, hr, _⟩ := hb
    exact hr.form
  exact ⟨A, c, he, ⟨_, hb⟩, h'.same h3⟩
def POut (base B R pr : Nat) (w1 : World) (s : Shp) (w : World) (e : Ending) (w' : World) : Prop := ∃ v, e = .returned v ∧ (∃ N, ItemsAt N w' v s.out) ∧ Mod (fun _ => False) w w' ∧ PlW base B R pr w1 s w'
theorem pl_out (h : PlW base B R pr w1 s w) (hf : s.Fit) : Calls Try.prog 11 #[.pointer (some ⟨B, 0, none⟩)] w (POut base B R pr w1 s w) := by
  have h' := h
  obtain ⟨⟨ov, wv, a1, _⟩, _⟩ := h
  refine (out_any w B base ov wv s a1 hf).mono fun e w' hT => ?_
  obtain ⟨v, he, h1, h2, h3⟩ := hT
  rw [List.take_length] at h1
  exact ⟨v, he, ⟨_, h1⟩, h3, h'.same h3⟩
theorem quiet_room {P : Program} {f : FuncId} {args : Array Value} {w : World} {n : Nat} {v : Value}
    (h : Calls P f args (w.drewN n) fun e w' => e = .returned v ∧ ∃ m, w' = (w.drewN n).drewN m) : Calls P f args (w.drewN n) fun e w'' => e = .returned v ∧ ∃ m, w'' = w.drewN m :=
  h.mono fun _ _ ⟨he, m, hm⟩ => ⟨he, n + m, by rw [hm, World.drewN_drewN]⟩
theorem pl_room (h : PlW base B R pr w1 s w) (b : Bool) (hq : 2 ≤ s.que ∧ s.que ≤ 32) : Calls Try.prog 18 #[.pointer (some ⟨B, 0, none⟩), .bool b] w fun e w' => e = .returned (.bool (s.room b)) ∧ ∃ n, w' = w.drewN n := by
  obtain ⟨⟨ov, wv, a1, _⟩, _⟩ := h
  exact room_any w B base ov wv s b a1 hq
end
@[go_sem] theorem pair_is (v : Value) : pair v = .tuple #[v, .bool true] := rfl
@[go_sem] theorem idV_is (v : Value) : idV v = v := rfl
theorem six_of {w : World} {R pr : Nat} {ov wv : Value} {s : Shp} (h : RSh w R pr ov wv s) :
    w.cell? ⟨R, 2, none⟩ = some (.pointer (some ⟨pr, 0, none⟩)) ∧ w.cell? ⟨R, 3, none⟩ = some ov ∧ w.cell? ⟨R, 4, none⟩ = some wv ∧ w.cell? ⟨R, 5, none⟩ = some (.int .u64 s.last) ∧ w.cell? ⟨pr, 3, none⟩ = some (.int .i64 s.p.left) ∧ w.cell? ⟨pr, 4, none⟩ = some (.bool (decide (0 < s.p.left))) :=
  ⟨(blk_cell h.top 2).trans rfl, (blk_cell h.top 3).trans rfl, (blk_cell h.top 4).trans rfl, (blk_cell h.top 5).trans rfl, (blk_cell h.pace 3).trans rfl, (blk_cell h.pace 4).trans rfl⟩
theorem BodiesAt.elem {N : Nat → Prop} {w : World} {A : Option Addr} {c : Nat} {l : List ByteArray} (h : BodiesAt N w (.slice A l.length c) l) {k : Nat} {x : ByteArray} (hx : l[k]? = some x) :
    ∃ b o B cb, A = some ⟨b, o, none⟩ ∧ w.cell? ⟨b, o + k, none⟩ = some (.slice B x.size cb) ∧ ∀ q, (convert 31 9 (.slice B x.size cb)).run Try.prog (w.drewN q) = .ok (.string x) (w.drewN q) := by
  obtain ⟨l', h1, h2, h3⟩ := h
  have hkl := (List.getElem?_eq_some_iff.1 hx).1
  obtain ⟨p, hp, hpx⟩ : ∃ p, l'[k]? = some p ∧ p.1 = x := by
    have hx' := hx
    rw [← h1, List.getElem?_map] at hx'
    cases hq : l'[k]? with
    | none => rw [hq] at hx'; cases hx'
    | some p => rw [hq] at hx'; exact ⟨p, rfl, by simpa using hx'⟩
  have hbody := h3 p (List.mem_of_getElem? hp)
  rw [hpx] at hbody
  obtain ⟨b, o, cap, cur, he, hcur, _, hcells⟩ := h2.at (by omega)
  obtain ⟨B2, cb, hp2⟩ := hbody.1.form
  rw [hp2] at hbody
  cases he
  refine ⟨b, o, B2, cb, rfl, ?_, fun q => conv_bytes (w := w.drewN q) hbody.1⟩
  rw [blk_cell hcur, hcells k (by omega), List.getElem?_map, hp]
  show some p.2 = _
  rw [hp2]
theorem RStrs.elem {w : World} {A : Option Addr} {c : Nat} {l : List ByteArray} (h : RStrs w (.slice A l.length c) l) {k : Nat} {x : ByteArray} (hx : l[k]? = some x) : ∃ b o, A = some ⟨b, o, none⟩ ∧ w.cell? ⟨b, o + k, none⟩ = some (.string x) := by
  have hkl := (List.getElem?_eq_some_iff.1 hx).1
  unfold RStrs at h
  obtain ⟨b, o, cap, cur, he, hcur, _, hcells⟩ := RowOf.at h (by omega)
  cases he
  exact ⟨b, o, rfl, by rw [blk_cell hcur, hcells k (by omega), List.getElem?_map, hx]; rfl⟩
theorem BodiesAt.drewN {N : Nat → Prop} {w : World} {v : Value} {l : List ByteArray} (h : BodiesAt N w v l) (n : Nat) : BodiesAt N (w.drewN n) v l := h.keepT (ts := [5, 31]) (KeepT.mod ((Mod.refl (fun _ => False) w).drewN n) fun _ _ _ _ x => x.elim) (by decide) (by decide)
theorem BodiesAt.none {N : Nat → Prop} {w w' : World} {v : Value} {l : List ByteArray} (h : BodiesAt N w v l) (hm : Mod (fun _ => False) w w') : BodiesAt N w' v l := h.keepT (ts := [5, 31]) (KeepT.mod hm fun _ _ _ _ x => x.elim) (by decide) (by decide)
theorem PlSt.new (win que : Nat) (f m : Int) (h1 : 1 ≤ f) (h2 : f ≤ m) (h3 : m ≤ 1000) : PlSt win que 0 (Shp.new win que f m) :=
  ⟨⟨[], ⟨Shp.Inv.new _ _ _ _, rfl, rfl, rfl, Nat.le_refl _, Nat.le_refl _, ⟨h1, Int.le_refl _, h2, h3, Int.le_refl _, by show (0 : Int) ≤ f; omega⟩, Int.le_refl 0, Int.le_refl 0⟩⟩, List.Pairwise.nil, fun h => absurd rfl h⟩
end Go.Proofs.Ytcgfbbfepopinaa
