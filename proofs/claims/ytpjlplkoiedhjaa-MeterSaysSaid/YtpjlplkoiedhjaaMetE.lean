/-
  Add, walked.
-/
import Derived.Test.YtpjlplkoiedhjaaMetD
import Derived.Deep.DeepCutAuto
namespace Go.Proofs.Ytpjlplkoiedhjaa
open Go.RowKit Go.Shoal

theorem blk_second (w : World) (o p : Obj) : ((w.alloc o).alloc p).drew.heap[w.heap.size + 1]? = some p := by
  rw [show w.heap.size + 1 = (w.alloc o).heap.size by simp]
  exact blk_new (w.alloc o) p
def Added (w : World) (g : Nat) (v : Value) (m : Mt) (x : Nat) (e : Ending) (w' : World) : Prop := e = .returned (.tuple #[]) ∧ ∃ m', AddTo m x m' ∧ Step w g v m' w'
theorem MAt.cellsAre {w : World} {g : Nat} {v : Value} {m : Mt} (h : MAt w g v m) : w.cell? ⟨g, 0, none⟩ = some v ∧ w.cell? ⟨g, 1, none⟩ = some (.int .i64 (m.n : Int)) ∧ w.cell? ⟨g, 2, none⟩ = some (.int .i64 (m.f : Int)) ∧ w.cell? ⟨g, 3, none⟩ = some (.float .f64 m.s) ∧ w.cell? ⟨g, 4, none⟩ = some (.float .f64 m.sm) ∧ w.cell? ⟨g, 5, none⟩ = some (.float .f64 m.le) ∧ w.cell? ⟨g, 6, none⟩ = some (.float .f64 m.mo) :=
  ⟨(blk_cell h.1 0).trans rfl, (blk_cell h.1 1).trans rfl, (blk_cell h.1 2).trans rfl, (blk_cell h.1 3).trans rfl, (blk_cell h.1 4).trans rfl, (blk_cell h.1 5).trans rfl, (blk_cell h.1 6).trans rfl⟩
set_option maxRecDepth 100000 in
set_option maxHeartbeats 4000000 in
theorem add_any (g : Nat) (v : Value) (m : Mt) (x : Nat) (w : World) (h : MAt w g v m) (ho : m.Ok) (hx : x < B64) (hl : m.ks.length ≤ 1000) :
    Calls Try.prog 10 #[.pointer (some ⟨g, 0, none⟩), .float .f64 x] w (Added w g v m x) := by
  have HKY := Lib.hid (key_any x w hx)
  have HSR := Lib.hid (search_any v m.ks (fkey x) w h.2.1 ho.rises (by omega))
  have hgz := blk_lt h.1
  have hnv : ∀ b, v.ownBlock = some b → b < w.heap.size := fun b hb => RowOf.lt h.2.1 hb
  have HIN : Hid (∀ t, Calls Try.prog 38 #[v, .int .i64 (rank m.ks (fkey x) : Int), .slice (some ⟨w.heap.size, 0, none⟩) 1 1] (w.alloc (.cells #[.int .u64 (fkey x)] t)) (Put (w.alloc (.cells #[.int .u64 (fkey x)] t)) v (ins m.ks (fkey x)))) := Lib.hid fun t =>
    insert_any v m.ks (fkey x) (rank m.ks (fkey x)) w.heap.size t _ (h.2.1.keep fun b hb => Below.heap_alloc w _ b (hnv b hb)) (rank_le _ _) (blk_new _ _) (fun e => absurd (hnv _ e) (Nat.lt_irrefl _)) (by omega)
  have HS0 : Hid (∀ (t : TypeId) (w2 : World) (v' : Value), Put (w.alloc (.cells #[.int .u64 (fkey x)] t)) v (ins m.ks (fkey x)) (.returned v') w2 → (w2.cell? ⟨g, 0, none⟩ = some v ∧ w2.frozen? ⟨g, 0, none⟩ = false) ∧ Step w g v { m with ks := ins m.ks (fkey x) } (w2.setCell ⟨g, 0, none⟩ v')) := Lib.hid fun t w2 v' hp => by
    obtain ⟨v2, he, hk, hg, hn⟩ := hp
    cases he
    have hb : w2.heap[g]? = some (.cells (m.cells v) 51 (0, 0)) := blk_grown (blk_alloc h.1 _) hg (fun k e e' => h.2.2 (by rw [e, e']))
    exact ⟨⟨(blk_cell hb 0).trans rfl, blk_frozen hb 0⟩, Step.first h hk hg hn ((Mod.refl _ _).alloc _)⟩
  have HNN := Lib.hid (isnan_any x)
  have HII := Lib.hid (isinf_any x hx)
  have HA : Hid (∀ m', m'.ks = ins m.ks (fkey x) → _ → AddTo m x m') := Lib.hid fun m' h1 h2 => ⟨h1, h2⟩
  have HMm : Hid (m.Ok) := ho
  have HX := Lib.hid hx
  obtain ⟨c0, -, -, -, -, -, -⟩ := h.cellsAre
  have hkl : m.ks.length ≤ 1000 := hl
  have hn1 := ho.hn
  have hf1 := ho.hf
  generalize ins m.ks (fkey x) = L at *
  generalize rank m.ks (fkey x) = r at *
  generalize fkey x = K at *
  clear h ho hx hl hnv
  go_enter Try.func10, Try.ntmps10
  go_wp2_with fail
  refine HKY.out.mono ?_
  rintro e w1 ⟨rfl, rfl⟩
  go_wp2_with fail
  refine HSR.out.mono ?_
  rintro e w1 ⟨⟨bb, rfl⟩, rfl⟩
  go_wp2_with fail
  refine (HIN.out _).mono ?_
  intro e w2 hp
  obtain ⟨A1, n1, k1, rfl⟩ : ∃ A n c, e = .returned (.slice A n c) := by
    obtain ⟨v', he, hk, _⟩ := hp
    obtain ⟨A, c, rfl⟩ := RowOf.form hk
    exact ⟨A, _, c, he⟩
  obtain ⟨⟨d0, d1⟩, hst⟩ := HS0.out _ _ _ hp
  have HST := Lib.hid hst
  clear hst hp HS0 HIN HSR HKY
  go_wp2_with fail
  generalize w2.setCell ⟨g, 0, none⟩ (.slice A1 n1 k1) = W at *
  clear d0 d1 c0
  obtain ⟨v1, hat1, hv1, hm1⟩ := HST.out
  obtain ⟨e0, e1, e2, e3, e4, e5, e6⟩ := hat1.cellsAre
  have HAT := Lib.hid hat1
  have HV := Lib.hid hv1
  have HM := Lib.hid hm1
  clear hat1 hv1 hm1 HST
  dsimp only at e1 e2 e3 e4 e5 e6
  refine (HNN.out _).mono ?_
  rintro e w1 ⟨rfl, rfl⟩
  have fz := fun i => blk_frozen HAT.out.1 i
  have f1 := fz 1
  have f3 := fz 3
  clear fz
  by_cases hn : isN x = true
  · rw [hn]
    go_wp2
    go_end0
    exact ⟨rfl, { m with ks := L }, HA.out _ rfl (.inl ⟨hn, rfl, rfl, rfl, rfl, rfl, rfl⟩), v1, HAT.out, HV.out, HM.out⟩
  · have hn' : isN x = false := by simpa using hn
    rw [hn']
    go_upto_region 6 with (refine wpList_arith (by rfl) .add _ _ _ _ (by rfl) (.inl rfl) _ _ (by rfl) (by rfl) ?_; intro s1 k2 ha1)
    have hE : Step w g v { m with ks := L, n := m.n + 1, s := s1 } (((W.setCell ⟨g, 1, none⟩ (.int .i64 ((m.n : Int) + 1))).drewN k2).setCell ⟨g, 3, none⟩ (.float .f64 s1)) :=
      Step.set HAT.out HV.out HM.out rfl (blk_set (w := (W.setCell ⟨g, 1, none⟩ (.int .i64 ((m.n : Int) + 1))).drewN k2) (blk_set HAT.out.1 1 _) 3 _) ((((Mod.refl (fun k => k = g) W).set (fun _ => rfl) _).drewN k2).set (fun _ => rfl) _)
    have HS2 := Lib.hid hE
    have HA1 := Lib.hid ha1
    clear hE ha1 e0 e1 e2 e3 e4 e5 e6 f1 f3 HAT HV HM
    generalize ((W.setCell ⟨g, 1, none⟩ (.int .i64 ((m.n : Int) + 1))).drewN k2).setCell ⟨g, 3, none⟩ (.float .f64 s1) = W2 at *
    go_cut [46] (fun _ wx => Hid (Step w g v { m with ks := L, n := m.n + 1, s := s1, le := minF [m.le, x], mo := maxF [m.mo, x] } wx))
    case first =>
      as_aux_lemma =>
        obtain ⟨v2, hat2, hv2, hm2⟩ := HS2.out
        have HMIN : Hid (∀ (W : World) (g2 : Nat) (t : TypeId), W.heap[g2]? = some (.cells #[.float .f64 m.le, .float .f64 x] t (0, 0)) → Calls Try.prog 34 #[.slice (some ⟨g2, 0, none⟩) 2 2] W fun e w' => e = .returned (.float .f64 (minF [m.le, x])) ∧ W = w') := Lib.hid fun W g2 t hb => min_any _ _ W (flts_two hb HMm.out.hle HX.out)
        have HMAX : Hid (∀ (W : World) (g2 : Nat) (t : TypeId), W.heap[g2]? = some (.cells #[.float .f64 m.mo, .float .f64 x] t (0, 0)) → Calls Try.prog 35 #[.slice (some ⟨g2, 0, none⟩) 2 2] W fun e w' => e = .returned (.float .f64 (maxF [m.mo, x])) ∧ W = w') := Lib.hid fun W g2 t hb => max_any _ _ W (flts_two hb HMm.out.hmo HX.out)
        have HF5 : Hid (∀ W, Mod (fun _ => False) W2 W → W.frozen? ⟨g, 5, none⟩ = false ∧ W.frozen? ⟨g, 6, none⟩ = false ∧ (∃ y, W.cell? ⟨g, 5, none⟩ = some y) ∧ ∃ y, W.cell? ⟨g, 6, none⟩ = some y) := Lib.hid fun W hm =>
          have hb := hm.blk hat2.1 (fun x => x)
          ⟨blk_frozen hb 5, blk_frozen hb 6, ⟨_, (blk_cell hb 5).trans rfl⟩, ⟨_, (blk_cell hb 6).trans rfl⟩⟩
        have HK5 : Hid (∀ W, Mod (fun _ => False) W2 W → W.cell? ⟨g, 5, none⟩ = some (.float .f64 m.le) ∧ W.cell? ⟨g, 6, none⟩ = some (.float .f64 m.mo) ∧ Mod (fun _ => False) W2 W) := Lib.hid fun W hm =>
          have hb := hm.blk hat2.1 (fun x => x)
          ⟨(blk_cell hb 5).trans rfl, (blk_cell hb 6).trans rfl, hm⟩
        have HEND : Hid (∀ W, Mod (fun _ => False) W2 W → Hid (Step w g v { m with ks := L, n := m.n + 1, s := s1, le := minF [m.le, x], mo := maxF [m.mo, x] } ((W.setCell ⟨g, 5, none⟩ (.float .f64 (minF [m.le, x]))).setCell ⟨g, 6, none⟩ (.float .f64 (maxF [m.mo, x]))))) := Lib.hid fun W hm =>
          Lib.hid (Step.set hat2 hv2 hm2 rfl (blk_set (blk_set (hm.blk hat2.1 (fun x => x)) 5 _) 6 _) (((hm.mono (T := fun k => k = g) (fun _ _ x => x.elim)).set (fun _ => rfl) _).set (fun _ => rfl) _))
        clear hat2 hv2 hm2 HS2 HA1 HX HMm HA HNN HII
        refine wp_region_part (S := fun w' => w'.cell? ⟨g, 5, none⟩ = some (.float .f64 m.le) ∧ w'.cell? ⟨g, 6, none⟩ = some (.float .f64 m.mo) ∧ Mod (fun _ => False) W2 w') [1, 18, 19, 20, 21] (by kernel_rfl) ?_ (fun hHeld => ?_)
        · exact HK5.out _ (Mod.refl _ _).drew
        refine wpPart_takeM (i := 1) (oi := { dst := some 47, op := Op.move (Operand.tmp 0), type := 24, pos := "meter.go:35", after := #[{ on := 18, ground := Ground.gcOnly Departure.lateStores }], guard := none }) (v := ?_) rfl (by kernel_rfl) (by kernel_rfl) (by kernel_rfl) (by kernel_rfl) (fun _ _ _ h => h) (Or.inl ⟨by rfl, ?_⟩) ?_
        rotate_left
        · intro w _; go_simp <;> with_reducible rfl
        try simp only [Act.put, List.setIfInBounds_toArray, List.set_cons_zero, List.set_cons_succ]
        refine wpPart_takeT (i := 0) (oi := { dst := some 46, op := Op.move (Operand.tmp 0), type := 24, pos := "meter.go:35", after := #[], guard := none }) (v := ?_) rfl (by kernel_rfl) (by kernel_rfl) (by kernel_rfl) (by kernel_rfl) (by kernel_rfl) (by kernel_rfl) (fun _ _ _ h => h) (Or.inl ⟨by rfl, ?_⟩) (by assumption) ?_
        rotate_left
        · intro w hSw; (try dsimp only at hSw); go_simp <;> with_reducible rfl
        try simp only [Act.put, List.setIfInBounds_toArray, List.set_cons_zero, List.set_cons_succ]
        refine wpPart_takeT (i := 2) (oi := { dst := some 48, op := Op.move (Operand.tmp 0), type := 24, pos := "meter.go:35", after := #[], guard := none }) (v := ?_) rfl (by kernel_rfl) (by kernel_rfl) (by kernel_rfl) (by kernel_rfl) (by kernel_rfl) (by kernel_rfl) (fun _ _ _ h => h) (Or.inl ⟨by rfl, ?_⟩) (by assumption) ?_
        rotate_left
        · intro w hSw; (try dsimp only at hSw); go_simp <;> with_reducible rfl
        try simp only [Act.put, List.setIfInBounds_toArray, List.set_cons_zero, List.set_cons_succ]
        refine wpPart_takeT (i := 3) (oi := { dst := some 49, op := Op.nilCheck (Operand.tmp 48), type := 0, pos := "meter.go:35", after := #[{ on := 2, ground := Ground.data }], guard := none }) (v := ?_) rfl (by kernel_rfl) (by kernel_rfl) (by kernel_rfl) (by kernel_rfl) (by kernel_rfl) (by kernel_rfl) (fun _ _ _ h => h) (Or.inl ⟨by rfl, ?_⟩) (by assumption) ?_
        rotate_left
        · intro w hSw; (try dsimp only at hSw); go_simp <;> with_reducible rfl
        try simp only [Act.put, List.setIfInBounds_toArray, List.set_cons_zero, List.set_cons_succ]
        refine wpPart_takeT (i := 4) (oi := { dst := some 50, op := Op.fieldAddr 51 (Operand.tmp 49) 5, type := 0, pos := "meter.go:35", after := #[{ on := 3, ground := Ground.data }], guard := none }) (v := ?_) rfl (by kernel_rfl) (by kernel_rfl) (by kernel_rfl) (by kernel_rfl) (by kernel_rfl) (by kernel_rfl) (fun _ _ _ h => h) (Or.inl ⟨by rfl, ?_⟩) (by assumption) ?_
        rotate_left
        · intro w hSw; (try dsimp only at hSw); go_simp <;> with_reducible rfl
        try simp only [Act.put, List.setIfInBounds_toArray, List.set_cons_zero, List.set_cons_succ]
        refine wpPart_takeT (i := 5) (oi := { dst := some 51, op := Op.load 22 (Operand.tmp 50), type := 22, pos := "meter.go:35", after := #[{ on := 4, ground := Ground.data }], guard := none }) (v := ?_) rfl (by kernel_rfl) (by kernel_rfl) (by kernel_rfl) (by kernel_rfl) (by kernel_rfl) (by kernel_rfl) (fun _ _ _ h => h) (Or.inl ⟨by rfl, ?_⟩) (by assumption) ?_
        rotate_left
        · intro w hSw; (try dsimp only at hSw); go_simp <;> with_reducible rfl
        try simp only [Act.put, List.setIfInBounds_toArray, List.set_cons_zero, List.set_cons_succ]
        refine wpPart_takeT (i := 6) (oi := { dst := some 52, op := Op.move (Operand.tmp 1), type := 22, pos := "meter.go:35", after := #[], guard := none }) (v := ?_) rfl (by kernel_rfl) (by kernel_rfl) (by kernel_rfl) (by kernel_rfl) (by kernel_rfl) (by kernel_rfl) (fun _ _ _ h => h) (Or.inl ⟨by rfl, ?_⟩) (by assumption) ?_
        rotate_left
        · intro w hSw; (try dsimp only at hSw); go_simp <;> with_reducible rfl
        try simp only [Act.put, List.setIfInBounds_toArray, List.set_cons_zero, List.set_cons_succ]
        refine wpPart_takeT (i := 9) (oi := { dst := some 55, op := Op.move (Operand.tmp 0), type := 24, pos := "meter.go:35", after := #[], guard := none }) (v := ?_) rfl (by kernel_rfl) (by kernel_rfl) (by kernel_rfl) (by kernel_rfl) (by kernel_rfl) (by kernel_rfl) (fun _ _ _ h => h) (Or.inl ⟨by rfl, ?_⟩) (by assumption) ?_
        rotate_left
        · intro w hSw; (try dsimp only at hSw); go_simp <;> with_reducible rfl
        try simp only [Act.put, List.setIfInBounds_toArray, List.set_cons_zero, List.set_cons_succ]
        refine wpPart_takeT (i := 10) (oi := { dst := some 56, op := Op.nilCheck (Operand.tmp 55), type := 0, pos := "meter.go:35", after := #[{ on := 9, ground := Ground.data }], guard := none }) (v := ?_) rfl (by kernel_rfl) (by kernel_rfl) (by kernel_rfl) (by kernel_rfl) (by kernel_rfl) (by kernel_rfl) (fun _ _ _ h => h) (Or.inl ⟨by rfl, ?_⟩) (by assumption) ?_
        rotate_left
        · intro w hSw; (try dsimp only at hSw); go_simp <;> with_reducible rfl
        try simp only [Act.put, List.setIfInBounds_toArray, List.set_cons_zero, List.set_cons_succ]
        refine wpPart_takeT (i := 11) (oi := { dst := some 57, op := Op.fieldAddr 51 (Operand.tmp 56) 6, type := 0, pos := "meter.go:35", after := #[{ on := 10, ground := Ground.data }], guard := none }) (v := ?_) rfl (by kernel_rfl) (by kernel_rfl) (by kernel_rfl) (by kernel_rfl) (by kernel_rfl) (by kernel_rfl) (fun _ _ _ h => h) (Or.inl ⟨by rfl, ?_⟩) (by assumption) ?_
        rotate_left
        · intro w hSw; (try dsimp only at hSw); go_simp <;> with_reducible rfl
        try simp only [Act.put, List.setIfInBounds_toArray, List.set_cons_zero, List.set_cons_succ]
        refine wpPart_takeT (i := 12) (oi := { dst := some 58, op := Op.load 22 (Operand.tmp 57), type := 22, pos := "meter.go:35", after := #[{ on := 11, ground := Ground.data }], guard := none }) (v := ?_) rfl (by kernel_rfl) (by kernel_rfl) (by kernel_rfl) (by kernel_rfl) (by kernel_rfl) (by kernel_rfl) (fun _ _ _ h => h) (Or.inl ⟨by rfl, ?_⟩) (by assumption) ?_
        rotate_left
        · intro w hSw; (try dsimp only at hSw); go_simp <;> with_reducible rfl
        try simp only [Act.put, List.setIfInBounds_toArray, List.set_cons_zero, List.set_cons_succ]
        refine wpPart_takeT (i := 13) (oi := { dst := some 59, op := Op.move (Operand.tmp 1), type := 22, pos := "meter.go:35", after := #[], guard := none }) (v := ?_) rfl (by kernel_rfl) (by kernel_rfl) (by kernel_rfl) (by kernel_rfl) (by kernel_rfl) (by kernel_rfl) (fun _ _ _ h => h) (Or.inl ⟨by rfl, ?_⟩) (by assumption) ?_
        rotate_left
        · intro w hSw; (try dsimp only at hSw); go_simp <;> with_reducible rfl
        try simp only [Act.put, List.setIfInBounds_toArray, List.set_cons_zero, List.set_cons_succ]
        refine wpPart_ready (rs := [7, 14]) (by kernel_rfl) (by simp) ?_
        refine AllPart.cons (o := { dst := some 53, op := Op.buildSlice 36 2 #[(0, Operand.tmp 51), (1, Operand.tmp 52)], type := 36, pos := "meter.go:35", after := #[{ on := 5, ground := Ground.data }, { on := 6, ground := Ground.data }], guard := none }) rfl (by kernel_rfl) (fun K hK => ?_) ?_
        · skip
          have hmz := hHeld.2.2
          go_simp
          refine hK.out _ _ ?_ (fun hHeld => ?_)
          · exact HK5.out _ (hmz.alloc _)
          clear hK K
          try simp only [Act.put, List.setIfInBounds_toArray, List.set_cons_zero, List.set_cons_succ]
          clear hmz
          as_aux_lemma =>
            refine wpPart_ready (rs := [8, 14]) (by kernel_rfl) (by simp) ?_
            refine AllPart.cons (o := { dst := some 54, op := Op.call { callee := Callee.value (Operand.func 34), args := #[Operand.tmp 53], argTypes := #[36] }, type := 22, pos := "meter.go:35", after := #[{ on := 7, ground := Ground.data }], guard := none }) rfl (by kernel_rfl) (fun K hK => ?_) ?_
            · skip
              have hmz := hHeld.2.2
              go_simp
              go_at_call 34
              refine (HMIN.out _ _ _ (by first | exact blk_new _ _ | exact blk_second _ _ _ | exact blk_alloc (blk_new _ _) _)).mono ?_
              rintro e w5 ⟨rfl, rfl⟩
              refine hK.out _ _ ?_ (fun hHeld => ?_)
              · exact HK5.out _ hmz
              clear hK K
              try simp only [Act.put, List.setIfInBounds_toArray, List.set_cons_zero, List.set_cons_succ]
              clear hmz
              as_aux_lemma =>
                refine wpPart_ready (rs := [14]) (by kernel_rfl) (by simp) ?_
                refine AllPart.cons (o := { dst := some 60, op := Op.buildSlice 36 2 #[(0, Operand.tmp 58), (1, Operand.tmp 59)], type := 36, pos := "meter.go:35", after := #[{ on := 12, ground := Ground.data }, { on := 13, ground := Ground.data }], guard := none }) rfl (by kernel_rfl) (fun K hK => ?_) AllPart.nil
                have hmz := hHeld.2.2
                go_simp
                refine hK.out _ _ ?_ (fun hHeld => ?_)
                · exact HK5.out _ (hmz.alloc _)
                clear hK K
                try simp only [Act.put, List.setIfInBounds_toArray, List.set_cons_zero, List.set_cons_succ]
                clear hmz
                as_aux_lemma =>
                  refine wpPart_ready (rs := [15]) (by kernel_rfl) (by simp) ?_
                  refine AllPart.cons (o := { dst := some 61, op := Op.call { callee := Callee.value (Operand.func 35), args := #[Operand.tmp 60], argTypes := #[36] }, type := 22, pos := "meter.go:35", after := #[{ on := 14, ground := Ground.data }, { on := 8, ground := Ground.chain }], guard := none }) rfl (by kernel_rfl) (fun K hK => ?_) AllPart.nil
                  have hmz := hHeld.2.2
                  go_simp
                  go_at_call 35
                  refine (HMAX.out _ _ _ (by first | exact blk_new _ _ | exact blk_second _ _ _ | exact blk_alloc (blk_new _ _) _)).mono ?_
                  rintro e w5 ⟨rfl, rfl⟩
                  refine hK.out _ _ ?_ (fun hHeld => ?_)
                  · exact HK5.out _ hmz
                  clear hK K
                  try simp only [Act.put, List.setIfInBounds_toArray, List.set_cons_zero, List.set_cons_succ]
                  clear hmz
                  as_aux_lemma =>
                    refine wpPart_takeT (i := 16) (oi := { dst := some 62, op := Op.nilCheck (Operand.tmp 46), type := 0, pos := "meter.go:35", after := #[{ on := 0, ground := Ground.data }, { on := 0, ground := Ground.phase }, { on := 1, ground := Ground.textOnly Departure.lateStores }, { on := 2, ground := Ground.phase }, { on := 3, ground := Ground.phase }, { on := 4, ground := Ground.phase }, { on := 5, ground := Ground.phase }, { on := 6, ground := Ground.phase }, { on := 7, ground := Ground.phase }, { on := 8, ground := Ground.phase }, { on := 9, ground := Ground.textOnly Departure.lateStores }, { on := 10, ground := Ground.textOnly Departure.lateStoresUnsure }, { on := 11, ground := Ground.textOnly Departure.lateStoresUnsure }, { on := 12, ground := Ground.phase }, { on := 13, ground := Ground.textOnly Departure.lateStores }, { on := 14, ground := Ground.textOnly Departure.lateStoresUnsure }, { on := 15, ground := Ground.phase }], guard := none }) (v := ?_) rfl (by kernel_rfl) (by kernel_rfl) (by kernel_rfl) (by kernel_rfl) (by kernel_rfl) (by kernel_rfl) (fun _ _ _ h => h) (Or.inl ⟨by rfl, ?_⟩) (by assumption) ?_
                    rotate_left
                    · intro w hSw; (try dsimp only at hSw); go_simp <;> with_reducible rfl
                    try simp only [Act.put, List.setIfInBounds_toArray, List.set_cons_zero, List.set_cons_succ]
                    refine wpPart_takeT (i := 17) (oi := { dst := some 63, op := Op.fieldAddr 51 (Operand.tmp 62) 5, type := 0, pos := "meter.go:35", after := #[{ on := 16, ground := Ground.data }, { on := 0, ground := Ground.phase }, { on := 1, ground := Ground.textOnly Departure.lateStores }, { on := 2, ground := Ground.phase }, { on := 3, ground := Ground.phase }, { on := 4, ground := Ground.phase }, { on := 5, ground := Ground.phase }, { on := 6, ground := Ground.phase }, { on := 7, ground := Ground.phase }, { on := 8, ground := Ground.phase }, { on := 9, ground := Ground.textOnly Departure.lateStores }, { on := 10, ground := Ground.textOnly Departure.lateStoresUnsure }, { on := 11, ground := Ground.textOnly Departure.lateStoresUnsure }, { on := 12, ground := Ground.phase }, { on := 13, ground := Ground.textOnly Departure.lateStores }, { on := 14, ground := Ground.textOnly Departure.lateStoresUnsure }, { on := 15, ground := Ground.phase }], guard := none }) (v := ?_) rfl (by kernel_rfl) (by kernel_rfl) (by kernel_rfl) (by kernel_rfl) (by kernel_rfl) (by kernel_rfl) (fun _ _ _ h => h) (Or.inl ⟨by rfl, ?_⟩) (by assumption) ?_
                    rotate_left
                    · intro w hSw; (try dsimp only at hSw); go_simp <;> with_reducible rfl
                    try simp only [Act.put, List.setIfInBounds_toArray, List.set_cons_zero, List.set_cons_succ]
                    refine wpPart_ready (rs := [18]) (by kernel_rfl) (by simp) ?_
                    refine AllPart.last (o := { dst := none, op := Op.store 22 (Operand.tmp 63) (Operand.tmp 54), type := 0, pos := "meter.go:35", after := #[{ on := 17, ground := Ground.data }, { on := 8, ground := Ground.data }, { on := 15, ground := Ground.chain }, { on := 0, ground := Ground.phase }, { on := 1, ground := Ground.textOnly Departure.lateStores }, { on := 2, ground := Ground.phase }, { on := 3, ground := Ground.phase }, { on := 4, ground := Ground.phase }, { on := 5, ground := Ground.phase }, { on := 6, ground := Ground.phase }, { on := 7, ground := Ground.phase }, { on := 8, ground := Ground.phase }, { on := 9, ground := Ground.textOnly Departure.lateStores }, { on := 10, ground := Ground.textOnly Departure.lateStoresUnsure }, { on := 11, ground := Ground.textOnly Departure.lateStoresUnsure }, { on := 12, ground := Ground.phase }, { on := 13, ground := Ground.textOnly Departure.lateStores }, { on := 14, ground := Ground.textOnly Departure.lateStoresUnsure }, { on := 15, ground := Ground.phase }], guard := none }) rfl (by kernel_rfl) (fun K hK => ?_) AllPart.nil
                    generalize World.drew _ = X at hHeld ⊢
                    have HM6 := Lib.hid hHeld.2.2
                    obtain ⟨hf5, hf6, ⟨y5, hy5⟩, y6, hy6⟩ := HF5.out _ hHeld.2.2
                    go_simp
                    refine hK.out _ _ ?_
                    clear hK K
                    try simp only [Act.put, List.setIfInBounds_toArray, List.set_cons_zero, List.set_cons_succ]
                    as_aux_lemma =>
                      refine wpPart_ready (rs := [19]) (by kernel_rfl) (by simp) ?_
                      refine AllPart.last (o := { dst := some 64, op := Op.nilCheck (Operand.tmp 47), type := 0, pos := "meter.go:35", after := #[{ on := 1, ground := Ground.data }, { on := 0, ground := Ground.phase }, { on := 1, ground := Ground.phase }, { on := 2, ground := Ground.phase }, { on := 3, ground := Ground.phase }, { on := 4, ground := Ground.phase }, { on := 5, ground := Ground.phase }, { on := 6, ground := Ground.phase }, { on := 7, ground := Ground.phase }, { on := 8, ground := Ground.phase }, { on := 9, ground := Ground.phase }, { on := 10, ground := Ground.phase }, { on := 11, ground := Ground.phase }, { on := 12, ground := Ground.phase }, { on := 13, ground := Ground.phase }, { on := 14, ground := Ground.phase }, { on := 15, ground := Ground.phase }, { on := 16, ground := Ground.phase }, { on := 17, ground := Ground.phase }, { on := 18, ground := Ground.phase }], guard := none }) rfl (by kernel_rfl) (fun K hK => ?_) AllPart.nil
                      go_simp
                      refine hK.out _ _ ?_
                      clear hK K
                      try simp only [Act.put, List.setIfInBounds_toArray, List.set_cons_zero, List.set_cons_succ]
                      as_aux_lemma =>
                        refine wpPart_ready (rs := [20]) (by kernel_rfl) (by simp) ?_
                        refine AllPart.last (o := { dst := some 65, op := Op.fieldAddr 51 (Operand.tmp 64) 6, type := 0, pos := "meter.go:35", after := #[{ on := 19, ground := Ground.data }, { on := 0, ground := Ground.phase }, { on := 1, ground := Ground.phase }, { on := 2, ground := Ground.phase }, { on := 3, ground := Ground.phase }, { on := 4, ground := Ground.phase }, { on := 5, ground := Ground.phase }, { on := 6, ground := Ground.phase }, { on := 7, ground := Ground.phase }, { on := 8, ground := Ground.phase }, { on := 9, ground := Ground.phase }, { on := 10, ground := Ground.phase }, { on := 11, ground := Ground.phase }, { on := 12, ground := Ground.phase }, { on := 13, ground := Ground.phase }, { on := 14, ground := Ground.phase }, { on := 15, ground := Ground.phase }, { on := 16, ground := Ground.phase }, { on := 17, ground := Ground.phase }, { on := 18, ground := Ground.phase }], guard := none }) rfl (by kernel_rfl) (fun K hK => ?_) AllPart.nil
                        go_simp
                        refine hK.out _ _ ?_
                        clear hK K
                        try simp only [Act.put, List.setIfInBounds_toArray, List.set_cons_zero, List.set_cons_succ]
                        as_aux_lemma =>
                          refine wpPart_ready (rs := [21]) (by kernel_rfl) (by simp) ?_
                          refine AllPart.last (o := { dst := none, op := Op.store 22 (Operand.tmp 65) (Operand.tmp 61), type := 0, pos := "meter.go:35", after := #[{ on := 20, ground := Ground.data }, { on := 15, ground := Ground.data }, { on := 18, ground := Ground.chain }, { on := 0, ground := Ground.phase }, { on := 1, ground := Ground.phase }, { on := 2, ground := Ground.phase }, { on := 3, ground := Ground.phase }, { on := 4, ground := Ground.phase }, { on := 5, ground := Ground.phase }, { on := 6, ground := Ground.phase }, { on := 7, ground := Ground.phase }, { on := 8, ground := Ground.phase }, { on := 9, ground := Ground.phase }, { on := 10, ground := Ground.phase }, { on := 11, ground := Ground.phase }, { on := 12, ground := Ground.phase }, { on := 13, ground := Ground.phase }, { on := 14, ground := Ground.phase }, { on := 15, ground := Ground.phase }, { on := 16, ground := Ground.phase }, { on := 17, ground := Ground.phase }, { on := 18, ground := Ground.phase }], guard := none }) rfl (by kernel_rfl) (fun K hK => ?_) AllPart.nil
                          go_simp
                          refine hK.out _ _ ?_
                          clear hK K
                          try simp only [Act.put, List.setIfInBounds_toArray, List.set_cons_zero, List.set_cons_succ]
                          as_aux_lemma =>
                            refine wpPart_done (by kernel_rfl) ?_ _
                            go_wp2_with fail
                            go_meet
                            exact HEND.out _ HM6.out
            refine AllPart.cons (o := { dst := some 60, op := Op.buildSlice 36 2 #[(0, Operand.tmp 58), (1, Operand.tmp 59)], type := 36, pos := "meter.go:35", after := #[{ on := 12, ground := Ground.data }, { on := 13, ground := Ground.data }], guard := none }) rfl (by kernel_rfl) (fun K hK => ?_) ?_
            · skip
              have hmz := hHeld.2.2
              go_simp
              refine hK.out _ _ ?_ (fun hHeld => ?_)
              · exact HK5.out _ (hmz.alloc _)
              clear hK K
              try simp only [Act.put, List.setIfInBounds_toArray, List.set_cons_zero, List.set_cons_succ]
              clear hmz
              as_aux_lemma =>
                refine wpPart_ready (rs := [8]) (by kernel_rfl) (by simp) ?_
                refine AllPart.cons (o := { dst := some 54, op := Op.call { callee := Callee.value (Operand.func 34), args := #[Operand.tmp 53], argTypes := #[36] }, type := 22, pos := "meter.go:35", after := #[{ on := 7, ground := Ground.data }], guard := none }) rfl (by kernel_rfl) (fun K hK => ?_) AllPart.nil
                have hmz := hHeld.2.2
                go_simp
                go_at_call 34
                refine (HMIN.out _ _ _ (by first | exact blk_new _ _ | exact blk_second _ _ _ | exact blk_alloc (blk_new _ _) _)).mono ?_
                rintro e w5 ⟨rfl, rfl⟩
                refine hK.out _ _ ?_ (fun hHeld => ?_)
                · exact HK5.out _ hmz
                clear hK K
                try simp only [Act.put, List.setIfInBounds_toArray, List.set_cons_zero, List.set_cons_succ]
                clear hmz
                as_aux_lemma =>
                  refine wpPart_ready (rs := [15]) (by kernel_rfl) (by simp) ?_
                  refine AllPart.cons (o := { dst := some 61, op := Op.call { callee := Callee.value (Operand.func 35), args := #[Operand.tmp 60], argTypes := #[36] }, type := 22, pos := "meter.go:35", after := #[{ on := 14, ground := Ground.data }, { on := 8, ground := Ground.chain }], guard := none }) rfl (by kernel_rfl) (fun K hK => ?_) AllPart.nil
                  have hmz := hHeld.2.2
                  go_simp
                  go_at_call 35
                  refine (HMAX.out _ _ _ (by first | exact blk_new _ _ | exact blk_second _ _ _ | exact blk_alloc (blk_new _ _) _)).mono ?_
                  rintro e w5 ⟨rfl, rfl⟩
                  refine hK.out _ _ ?_ (fun hHeld => ?_)
                  · exact HK5.out _ hmz
                  clear hK K
                  try simp only [Act.put, List.setIfInBounds_toArray, List.set_cons_zero, List.set_cons_succ]
                  clear hmz
                  as_aux_lemma =>
                    refine wpPart_takeT (i := 16) (oi := { dst := some 62, op := Op.nilCheck (Operand.tmp 46), type := 0, pos := "meter.go:35", after := #[{ on := 0, ground := Ground.data }, { on := 0, ground := Ground.phase }, { on := 1, ground := Ground.textOnly Departure.lateStores }, { on := 2, ground := Ground.phase }, { on := 3, ground := Ground.phase }, { on := 4, ground := Ground.phase }, { on := 5, ground := Ground.phase }, { on := 6, ground := Ground.phase }, { on := 7, ground := Ground.phase }, { on := 8, ground := Ground.phase }, { on := 9, ground := Ground.textOnly Departure.lateStores }, { on := 10, ground := Ground.textOnly Departure.lateStoresUnsure }, { on := 11, ground := Ground.textOnly Departure.lateStoresUnsure }, { on := 12, ground := Ground.phase }, { on := 13, ground := Ground.textOnly Departure.lateStores }, { on := 14, ground := Ground.textOnly Departure.lateStoresUnsure }, { on := 15, ground := Ground.phase }], guard := none }) (v := ?_) rfl (by kernel_rfl) (by kernel_rfl) (by kernel_rfl) (by kernel_rfl) (by kernel_rfl) (by kernel_rfl) (fun _ _ _ h => h) (Or.inl ⟨by rfl, ?_⟩) (by assumption) ?_
                    rotate_left
                    · intro w hSw; (try dsimp only at hSw); go_simp <;> with_reducible rfl
                    try simp only [Act.put, List.setIfInBounds_toArray, List.set_cons_zero, List.set_cons_succ]
                    refine wpPart_takeT (i := 17) (oi := { dst := some 63, op := Op.fieldAddr 51 (Operand.tmp 62) 5, type := 0, pos := "meter.go:35", after := #[{ on := 16, ground := Ground.data }, { on := 0, ground := Ground.phase }, { on := 1, ground := Ground.textOnly Departure.lateStores }, { on := 2, ground := Ground.phase }, { on := 3, ground := Ground.phase }, { on := 4, ground := Ground.phase }, { on := 5, ground := Ground.phase }, { on := 6, ground := Ground.phase }, { on := 7, ground := Ground.phase }, { on := 8, ground := Ground.phase }, { on := 9, ground := Ground.textOnly Departure.lateStores }, { on := 10, ground := Ground.textOnly Departure.lateStoresUnsure }, { on := 11, ground := Ground.textOnly Departure.lateStoresUnsure }, { on := 12, ground := Ground.phase }, { on := 13, ground := Ground.textOnly Departure.lateStores }, { on := 14, ground := Ground.textOnly Departure.lateStoresUnsure }, { on := 15, ground := Ground.phase }], guard := none }) (v := ?_) rfl (by kernel_rfl) (by kernel_rfl) (by kernel_rfl) (by kernel_rfl) (by kernel_rfl) (by kernel_rfl) (fun _ _ _ h => h) (Or.inl ⟨by rfl, ?_⟩) (by assumption) ?_
                    rotate_left
                    · intro w hSw; (try dsimp only at hSw); go_simp <;> with_reducible rfl
                    try simp only [Act.put, List.setIfInBounds_toArray, List.set_cons_zero, List.set_cons_succ]
                    refine wpPart_ready (rs := [18]) (by kernel_rfl) (by simp) ?_
                    refine AllPart.last (o := { dst := none, op := Op.store 22 (Operand.tmp 63) (Operand.tmp 54), type := 0, pos := "meter.go:35", after := #[{ on := 17, ground := Ground.data }, { on := 8, ground := Ground.data }, { on := 15, ground := Ground.chain }, { on := 0, ground := Ground.phase }, { on := 1, ground := Ground.textOnly Departure.lateStores }, { on := 2, ground := Ground.phase }, { on := 3, ground := Ground.phase }, { on := 4, ground := Ground.phase }, { on := 5, ground := Ground.phase }, { on := 6, ground := Ground.phase }, { on := 7, ground := Ground.phase }, { on := 8, ground := Ground.phase }, { on := 9, ground := Ground.textOnly Departure.lateStores }, { on := 10, ground := Ground.textOnly Departure.lateStoresUnsure }, { on := 11, ground := Ground.textOnly Departure.lateStoresUnsure }, { on := 12, ground := Ground.phase }, { on := 13, ground := Ground.textOnly Departure.lateStores }, { on := 14, ground := Ground.textOnly Departure.lateStoresUnsure }, { on := 15, ground := Ground.phase }], guard := none }) rfl (by kernel_rfl) (fun K hK => ?_) AllPart.nil
                    generalize World.drew _ = X at hHeld ⊢
                    have HM6 := Lib.hid hHeld.2.2
                    obtain ⟨hf5, hf6, ⟨y5, hy5⟩, y6, hy6⟩ := HF5.out _ hHeld.2.2
                    go_simp
                    refine hK.out _ _ ?_
                    clear hK K
                    try simp only [Act.put, List.setIfInBounds_toArray, List.set_cons_zero, List.set_cons_succ]
                    as_aux_lemma =>
                      refine wpPart_ready (rs := [19]) (by kernel_rfl) (by simp) ?_
                      refine AllPart.last (o := { dst := some 64, op := Op.nilCheck (Operand.tmp 47), type := 0, pos := "meter.go:35", after := #[{ on := 1, ground := Ground.data }, { on := 0, ground := Ground.phase }, { on := 1, ground := Ground.phase }, { on := 2, ground := Ground.phase }, { on := 3, ground := Ground.phase }, { on := 4, ground := Ground.phase }, { on := 5, ground := Ground.phase }, { on := 6, ground := Ground.phase }, { on := 7, ground := Ground.phase }, { on := 8, ground := Ground.phase }, { on := 9, ground := Ground.phase }, { on := 10, ground := Ground.phase }, { on := 11, ground := Ground.phase }, { on := 12, ground := Ground.phase }, { on := 13, ground := Ground.phase }, { on := 14, ground := Ground.phase }, { on := 15, ground := Ground.phase }, { on := 16, ground := Ground.phase }, { on := 17, ground := Ground.phase }, { on := 18, ground := Ground.phase }], guard := none }) rfl (by kernel_rfl) (fun K hK => ?_) AllPart.nil
                      go_simp
                      refine hK.out _ _ ?_
                      clear hK K
                      try simp only [Act.put, List.setIfInBounds_toArray, List.set_cons_zero, List.set_cons_succ]
                      as_aux_lemma =>
                        refine wpPart_ready (rs := [20]) (by kernel_rfl) (by simp) ?_
                        refine AllPart.last (o := { dst := some 65, op := Op.fieldAddr 51 (Operand.tmp 64) 6, type := 0, pos := "meter.go:35", after := #[{ on := 19, ground := Ground.data }, { on := 0, ground := Ground.phase }, { on := 1, ground := Ground.phase }, { on := 2, ground := Ground.phase }, { on := 3, ground := Ground.phase }, { on := 4, ground := Ground.phase }, { on := 5, ground := Ground.phase }, { on := 6, ground := Ground.phase }, { on := 7, ground := Ground.phase }, { on := 8, ground := Ground.phase }, { on := 9, ground := Ground.phase }, { on := 10, ground := Ground.phase }, { on := 11, ground := Ground.phase }, { on := 12, ground := Ground.phase }, { on := 13, ground := Ground.phase }, { on := 14, ground := Ground.phase }, { on := 15, ground := Ground.phase }, { on := 16, ground := Ground.phase }, { on := 17, ground := Ground.phase }, { on := 18, ground := Ground.phase }], guard := none }) rfl (by kernel_rfl) (fun K hK => ?_) AllPart.nil
                        go_simp
                        refine hK.out _ _ ?_
                        clear hK K
                        try simp only [Act.put, List.setIfInBounds_toArray, List.set_cons_zero, List.set_cons_succ]
                        as_aux_lemma =>
                          refine wpPart_ready (rs := [21]) (by kernel_rfl) (by simp) ?_
                          refine AllPart.last (o := { dst := none, op := Op.store 22 (Operand.tmp 65) (Operand.tmp 61), type := 0, pos := "meter.go:35", after := #[{ on := 20, ground := Ground.data }, { on := 15, ground := Ground.data }, { on := 18, ground := Ground.chain }, { on := 0, ground := Ground.phase }, { on := 1, ground := Ground.phase }, { on := 2, ground := Ground.phase }, { on := 3, ground := Ground.phase }, { on := 4, ground := Ground.phase }, { on := 5, ground := Ground.phase }, { on := 6, ground := Ground.phase }, { on := 7, ground := Ground.phase }, { on := 8, ground := Ground.phase }, { on := 9, ground := Ground.phase }, { on := 10, ground := Ground.phase }, { on := 11, ground := Ground.phase }, { on := 12, ground := Ground.phase }, { on := 13, ground := Ground.phase }, { on := 14, ground := Ground.phase }, { on := 15, ground := Ground.phase }, { on := 16, ground := Ground.phase }, { on := 17, ground := Ground.phase }, { on := 18, ground := Ground.phase }], guard := none }) rfl (by kernel_rfl) (fun K hK => ?_) AllPart.nil
                          go_simp
                          refine hK.out _ _ ?_
                          clear hK K
                          try simp only [Act.put, List.setIfInBounds_toArray, List.set_cons_zero, List.set_cons_succ]
                          as_aux_lemma =>
                            refine wpPart_done (by kernel_rfl) ?_ _
                            go_wp2_with fail
                            go_meet
                            exact HEND.out _ HM6.out
            exact AllPart.nil
        refine AllPart.cons (o := { dst := some 60, op := Op.buildSlice 36 2 #[(0, Operand.tmp 58), (1, Operand.tmp 59)], type := 36, pos := "meter.go:35", after := #[{ on := 12, ground := Ground.data }, { on := 13, ground := Ground.data }], guard := none }) rfl (by kernel_rfl) (fun K hK => ?_) ?_
        · skip
          have hmz := hHeld.2.2
          go_simp
          refine hK.out _ _ ?_ (fun hHeld => ?_)
          · exact HK5.out _ (hmz.alloc _)
          clear hK K
          try simp only [Act.put, List.setIfInBounds_toArray, List.set_cons_zero, List.set_cons_succ]
          clear hmz
          as_aux_lemma =>
            refine wpPart_ready (rs := [7]) (by kernel_rfl) (by simp) ?_
            refine AllPart.cons (o := { dst := some 53, op := Op.buildSlice 36 2 #[(0, Operand.tmp 51), (1, Operand.tmp 52)], type := 36, pos := "meter.go:35", after := #[{ on := 5, ground := Ground.data }, { on := 6, ground := Ground.data }], guard := none }) rfl (by kernel_rfl) (fun K hK => ?_) AllPart.nil
            have hmz := hHeld.2.2
            go_simp
            refine hK.out _ _ ?_ (fun hHeld => ?_)
            · exact HK5.out _ (hmz.alloc _)
            clear hK K
            try simp only [Act.put, List.setIfInBounds_toArray, List.set_cons_zero, List.set_cons_succ]
            clear hmz
            as_aux_lemma =>
              refine wpPart_ready (rs := [8]) (by kernel_rfl) (by simp) ?_
              refine AllPart.cons (o := { dst := some 54, op := Op.call { callee := Callee.value (Operand.func 34), args := #[Operand.tmp 53], argTypes := #[36] }, type := 22, pos := "meter.go:35", after := #[{ on := 7, ground := Ground.data }], guard := none }) rfl (by kernel_rfl) (fun K hK => ?_) AllPart.nil
              have hmz := hHeld.2.2
              go_simp
              go_at_call 34
              refine (HMIN.out _ _ _ (by first | exact blk_new _ _ | exact blk_second _ _ _ | exact blk_alloc (blk_new _ _) _)).mono ?_
              rintro e w5 ⟨rfl, rfl⟩
              refine hK.out _ _ ?_ (fun hHeld => ?_)
              · exact HK5.out _ hmz
              clear hK K
              try simp only [Act.put, List.setIfInBounds_toArray, List.set_cons_zero, List.set_cons_succ]
              clear hmz
              as_aux_lemma =>
                refine wpPart_ready (rs := [15]) (by kernel_rfl) (by simp) ?_
                refine AllPart.cons (o := { dst := some 61, op := Op.call { callee := Callee.value (Operand.func 35), args := #[Operand.tmp 60], argTypes := #[36] }, type := 22, pos := "meter.go:35", after := #[{ on := 14, ground := Ground.data }, { on := 8, ground := Ground.chain }], guard := none }) rfl (by kernel_rfl) (fun K hK => ?_) AllPart.nil
                have hmz := hHeld.2.2
                go_simp
                go_at_call 35
                refine (HMAX.out _ _ _ (by first | exact blk_new _ _ | exact blk_second _ _ _ | exact blk_alloc (blk_new _ _) _)).mono ?_
                rintro e w5 ⟨rfl, rfl⟩
                refine hK.out _ _ ?_ (fun hHeld => ?_)
                · exact HK5.out _ hmz
                clear hK K
                try simp only [Act.put, List.setIfInBounds_toArray, List.set_cons_zero, List.set_cons_succ]
                clear hmz
                as_aux_lemma =>
                  refine wpPart_takeT (i := 16) (oi := { dst := some 62, op := Op.nilCheck (Operand.tmp 46), type := 0, pos := "meter.go:35", after := #[{ on := 0, ground := Ground.data }, { on := 0, ground := Ground.phase }, { on := 1, ground := Ground.textOnly Departure.lateStores }, { on := 2, ground := Ground.phase }, { on := 3, ground := Ground.phase }, { on := 4, ground := Ground.phase }, { on := 5, ground := Ground.phase }, { on := 6, ground := Ground.phase }, { on := 7, ground := Ground.phase }, { on := 8, ground := Ground.phase }, { on := 9, ground := Ground.textOnly Departure.lateStores }, { on := 10, ground := Ground.textOnly Departure.lateStoresUnsure }, { on := 11, ground := Ground.textOnly Departure.lateStoresUnsure }, { on := 12, ground := Ground.phase }, { on := 13, ground := Ground.textOnly Departure.lateStores }, { on := 14, ground := Ground.textOnly Departure.lateStoresUnsure }, { on := 15, ground := Ground.phase }], guard := none }) (v := ?_) rfl (by kernel_rfl) (by kernel_rfl) (by kernel_rfl) (by kernel_rfl) (by kernel_rfl) (by kernel_rfl) (fun _ _ _ h => h) (Or.inl ⟨by rfl, ?_⟩) (by assumption) ?_
                  rotate_left
                  · intro w hSw; (try dsimp only at hSw); go_simp <;> with_reducible rfl
                  try simp only [Act.put, List.setIfInBounds_toArray, List.set_cons_zero, List.set_cons_succ]
                  refine wpPart_takeT (i := 17) (oi := { dst := some 63, op := Op.fieldAddr 51 (Operand.tmp 62) 5, type := 0, pos := "meter.go:35", after := #[{ on := 16, ground := Ground.data }, { on := 0, ground := Ground.phase }, { on := 1, ground := Ground.textOnly Departure.lateStores }, { on := 2, ground := Ground.phase }, { on := 3, ground := Ground.phase }, { on := 4, ground := Ground.phase }, { on := 5, ground := Ground.phase }, { on := 6, ground := Ground.phase }, { on := 7, ground := Ground.phase }, { on := 8, ground := Ground.phase }, { on := 9, ground := Ground.textOnly Departure.lateStores }, { on := 10, ground := Ground.textOnly Departure.lateStoresUnsure }, { on := 11, ground := Ground.textOnly Departure.lateStoresUnsure }, { on := 12, ground := Ground.phase }, { on := 13, ground := Ground.textOnly Departure.lateStores }, { on := 14, ground := Ground.textOnly Departure.lateStoresUnsure }, { on := 15, ground := Ground.phase }], guard := none }) (v := ?_) rfl (by kernel_rfl) (by kernel_rfl) (by kernel_rfl) (by kernel_rfl) (by kernel_rfl) (by kernel_rfl) (fun _ _ _ h => h) (Or.inl ⟨by rfl, ?_⟩) (by assumption) ?_
                  rotate_left
                  · intro w hSw; (try dsimp only at hSw); go_simp <;> with_reducible rfl
                  try simp only [Act.put, List.setIfInBounds_toArray, List.set_cons_zero, List.set_cons_succ]
                  refine wpPart_ready (rs := [18]) (by kernel_rfl) (by simp) ?_
                  refine AllPart.last (o := { dst := none, op := Op.store 22 (Operand.tmp 63) (Operand.tmp 54), type := 0, pos := "meter.go:35", after := #[{ on := 17, ground := Ground.data }, { on := 8, ground := Ground.data }, { on := 15, ground := Ground.chain }, { on := 0, ground := Ground.phase }, { on := 1, ground := Ground.textOnly Departure.lateStores }, { on := 2, ground := Ground.phase }, { on := 3, ground := Ground.phase }, { on := 4, ground := Ground.phase }, { on := 5, ground := Ground.phase }, { on := 6, ground := Ground.phase }, { on := 7, ground := Ground.phase }, { on := 8, ground := Ground.phase }, { on := 9, ground := Ground.textOnly Departure.lateStores }, { on := 10, ground := Ground.textOnly Departure.lateStoresUnsure }, { on := 11, ground := Ground.textOnly Departure.lateStoresUnsure }, { on := 12, ground := Ground.phase }, { on := 13, ground := Ground.textOnly Departure.lateStores }, { on := 14, ground := Ground.textOnly Departure.lateStoresUnsure }, { on := 15, ground := Ground.phase }], guard := none }) rfl (by kernel_rfl) (fun K hK => ?_) AllPart.nil
                  generalize World.drew _ = X at hHeld ⊢
                  have HM6 := Lib.hid hHeld.2.2
                  obtain ⟨hf5, hf6, ⟨y5, hy5⟩, y6, hy6⟩ := HF5.out _ hHeld.2.2
                  go_simp
                  refine hK.out _ _ ?_
                  clear hK K
                  try simp only [Act.put, List.setIfInBounds_toArray, List.set_cons_zero, List.set_cons_succ]
                  as_aux_lemma =>
                    refine wpPart_ready (rs := [19]) (by kernel_rfl) (by simp) ?_
                    refine AllPart.last (o := { dst := some 64, op := Op.nilCheck (Operand.tmp 47), type := 0, pos := "meter.go:35", after := #[{ on := 1, ground := Ground.data }, { on := 0, ground := Ground.phase }, { on := 1, ground := Ground.phase }, { on := 2, ground := Ground.phase }, { on := 3, ground := Ground.phase }, { on := 4, ground := Ground.phase }, { on := 5, ground := Ground.phase }, { on := 6, ground := Ground.phase }, { on := 7, ground := Ground.phase }, { on := 8, ground := Ground.phase }, { on := 9, ground := Ground.phase }, { on := 10, ground := Ground.phase }, { on := 11, ground := Ground.phase }, { on := 12, ground := Ground.phase }, { on := 13, ground := Ground.phase }, { on := 14, ground := Ground.phase }, { on := 15, ground := Ground.phase }, { on := 16, ground := Ground.phase }, { on := 17, ground := Ground.phase }, { on := 18, ground := Ground.phase }], guard := none }) rfl (by kernel_rfl) (fun K hK => ?_) AllPart.nil
                    go_simp
                    refine hK.out _ _ ?_
                    clear hK K
                    try simp only [Act.put, List.setIfInBounds_toArray, List.set_cons_zero, List.set_cons_succ]
                    as_aux_lemma =>
                      refine wpPart_ready (rs := [20]) (by kernel_rfl) (by simp) ?_
                      refine AllPart.last (o := { dst := some 65, op := Op.fieldAddr 51 (Operand.tmp 64) 6, type := 0, pos := "meter.go:35", after := #[{ on := 19, ground := Ground.data }, { on := 0, ground := Ground.phase }, { on := 1, ground := Ground.phase }, { on := 2, ground := Ground.phase }, { on := 3, ground := Ground.phase }, { on := 4, ground := Ground.phase }, { on := 5, ground := Ground.phase }, { on := 6, ground := Ground.phase }, { on := 7, ground := Ground.phase }, { on := 8, ground := Ground.phase }, { on := 9, ground := Ground.phase }, { on := 10, ground := Ground.phase }, { on := 11, ground := Ground.phase }, { on := 12, ground := Ground.phase }, { on := 13, ground := Ground.phase }, { on := 14, ground := Ground.phase }, { on := 15, ground := Ground.phase }, { on := 16, ground := Ground.phase }, { on := 17, ground := Ground.phase }, { on := 18, ground := Ground.phase }], guard := none }) rfl (by kernel_rfl) (fun K hK => ?_) AllPart.nil
                      go_simp
                      refine hK.out _ _ ?_
                      clear hK K
                      try simp only [Act.put, List.setIfInBounds_toArray, List.set_cons_zero, List.set_cons_succ]
                      as_aux_lemma =>
                        refine wpPart_ready (rs := [21]) (by kernel_rfl) (by simp) ?_
                        refine AllPart.last (o := { dst := none, op := Op.store 22 (Operand.tmp 65) (Operand.tmp 61), type := 0, pos := "meter.go:35", after := #[{ on := 20, ground := Ground.data }, { on := 15, ground := Ground.data }, { on := 18, ground := Ground.chain }, { on := 0, ground := Ground.phase }, { on := 1, ground := Ground.phase }, { on := 2, ground := Ground.phase }, { on := 3, ground := Ground.phase }, { on := 4, ground := Ground.phase }, { on := 5, ground := Ground.phase }, { on := 6, ground := Ground.phase }, { on := 7, ground := Ground.phase }, { on := 8, ground := Ground.phase }, { on := 9, ground := Ground.phase }, { on := 10, ground := Ground.phase }, { on := 11, ground := Ground.phase }, { on := 12, ground := Ground.phase }, { on := 13, ground := Ground.phase }, { on := 14, ground := Ground.phase }, { on := 15, ground := Ground.phase }, { on := 16, ground := Ground.phase }, { on := 17, ground := Ground.phase }, { on := 18, ground := Ground.phase }], guard := none }) rfl (by kernel_rfl) (fun K hK => ?_) AllPart.nil
                        go_simp
                        refine hK.out _ _ ?_
                        clear hK K
                        try simp only [Act.put, List.setIfInBounds_toArray, List.set_cons_zero, List.set_cons_succ]
                        as_aux_lemma =>
                          refine wpPart_done (by kernel_rfl) ?_ _
                          go_wp2_with fail
                          go_meet
                          exact HEND.out _ HM6.out
        exact AllPart.nil
    case rest =>
      obtain ⟨v3, hat3, hv3, hm3⟩ := hcut.out
      have HAT3 := Lib.hid hat3
      have HV3 := Lib.hid hv3
      have HM3 := Lib.hid hm3
      obtain ⟨e0, e1, e2, e3, e4, e5, e6⟩ := hat3.cellsAre
      dsimp only at e1 e2 e3 e4 e5 e6
      have f2 := blk_frozen hat3.1 2
      have f4 := blk_frozen hat3.1 4
      clear hat3 hv3 hm3 hcut HS2
      go_wp2_with fail
      refine (HII.out hn' _).mono ?_
      rintro e w1 ⟨rfl, rfl⟩
      by_cases hi : isI x = true
      · rw [hi]
        go_wp2
        go_end0
        exact ⟨rfl, _, HA.out { m with ks := L, n := m.n + 1, s := s1, le := minF [m.le, x], mo := maxF [m.mo, x] } rfl (.inr ⟨hn', rfl, HA1.out, rfl, rfl, .inl ⟨hi, rfl, rfl⟩⟩), v3, HAT3.out, HV3.out, HM3.out⟩
      have hi' : isI x = false := by simpa using hi
      rw [hi']
      by_cases hf0 : m.f = 0
      · have t1 : ((m.f : Int) + 1 == 1) = true := by rw [beq_iff_eq]; omega
        have t2 : (m.f : Int) + 1 = 1 := by omega
        go_wp2
        go_end0
        refine ⟨rfl, _, HA.out { m with ks := L, n := m.n + 1, f := 1, s := s1, sm := x, le := minF [m.le, x], mo := maxF [m.mo, x] } rfl (.inr ⟨hn', rfl, HA1.out, rfl, rfl, .inr ⟨hi', (by rw [hf0]), .inl ⟨hf0, rfl⟩⟩⟩), ?_⟩
        exact Step.set HAT3.out HV3.out HM3.out rfl (blk_set (blk_set HAT3.out.1 2 _) 4 _) (((Mod.refl (fun k => k = g) _).set (fun _ => rfl) _).set (fun _ => rfl) _)
      · have t1 : ((m.f : Int) + 1 == 1) = false := by rw [beq_eq_false_iff_ne]; omega
        have t2 : ¬ ((m.f : Int) + 1 = 1) := by omega
        have t3 : ¬ ((m.f : Int) = 0) := by omega
        have HS5 : Hid (Step w g v { m with ks := L, n := m.n + 1, f := m.f + 1, s := s1, le := minF [m.le, x], mo := maxF [m.mo, x] } (wc.setCell ⟨g, 2, none⟩ (.int .i64 ((m.f : Int) + 1)))) :=
          Step.set HAT3.out HV3.out HM3.out rfl (blk_set HAT3.out.1 2 _) ((Mod.refl (fun k => k = g) _).set (fun _ => rfl) _)
        go_upto_region 11 with fail
        clear e0 e1 e2 e3 e5 e6 f2 HAT3 HV3 HM3
        generalize wc.setCell ⟨g, 2, none⟩ (.int .i64 ((m.f : Int) + 1)) = W5 at *
        obtain ⟨v5, a5, b5, c5⟩ := HS5.out
        have k4 : W5.cell? ⟨g, 4, none⟩ = some (.float .f64 m.sm) := a5.cellsAre.2.2.2.2.1
        have k5 : W5.frozen? ⟨g, 4, none⟩ = false := blk_frozen a5.1 4
        have HEND2 : Hid (∀ (W : World) (d q s2 : Nat), Mod (fun _ => False) W5 W → Arith .sub x m.sm d → Arith .quo d eightW q → Arith .add m.sm q s2 → Added w g v m x (.returned (.tuple #[])) (W.setCell ⟨g, 4, none⟩ (.float .f64 s2))) := Lib.hid fun W d q s2 hm hd hq hs2 =>
          ⟨rfl, _, HA.out { m with ks := L, n := m.n + 1, f := m.f + 1, s := s1, sm := s2, le := minF [m.le, x], mo := maxF [m.mo, x] } rfl (.inr ⟨hn', rfl, HA1.out, rfl, rfl, .inr ⟨hi', rfl, .inr ⟨hf0, d, q, hd, hq, hs2⟩⟩⟩),
            Step.set a5 b5 c5 rfl (blk_set (hm.blk a5.1 (fun x => x)) 4 _) ((hm.mono (T := fun k => k = g) (fun _ _ x => x.elim)).set (fun _ => rfl) _)⟩
        clear a5 b5 c5 HS5 HA HA1 hn hn' hi hi' hf0 t1 t2 t3 e4 HNN HII HMm HX
        as_aux_lemma =>
          refine wp_region_part (S := fun w' => w'.cell? ⟨g, 4, none⟩ = some (.float .f64 m.sm) ∧ w'.frozen? ⟨g, 4, none⟩ = false ∧ Mod (fun _ => False) W5 w') [14] (by kernel_rfl) ?_ (fun hHeld => ?_)
          · exact ⟨k4, k5, (Mod.refl _ _).drew⟩
          refine wpPart_takeT (i := 0) (oi := { dst := some 84, op := Op.move (Operand.tmp 0), type := 24, pos := "meter.go:44", after := #[], guard := none }) (v := ?_) rfl (by kernel_rfl) (by kernel_rfl) (by kernel_rfl) (by kernel_rfl) (by kernel_rfl) (by kernel_rfl) (fun _ _ _ h => h) (Or.inl ⟨by rfl, ?_⟩) (by assumption) ?_
          rotate_left
          · intro w hSw; (try dsimp only at hSw); go_simp <;> with_reducible rfl
          try simp only [Act.put, List.setIfInBounds_toArray, List.set_cons_zero, List.set_cons_succ]
          refine wpPart_takeT (i := 1) (oi := { dst := some 85, op := Op.nilCheck (Operand.tmp 84), type := 0, pos := "meter.go:44", after := #[{ on := 0, ground := Ground.data }], guard := none }) (v := ?_) rfl (by kernel_rfl) (by kernel_rfl) (by kernel_rfl) (by kernel_rfl) (by kernel_rfl) (by kernel_rfl) (fun _ _ _ h => h) (Or.inl ⟨by rfl, ?_⟩) (by assumption) ?_
          rotate_left
          · intro w hSw; (try dsimp only at hSw); go_simp <;> with_reducible rfl
          try simp only [Act.put, List.setIfInBounds_toArray, List.set_cons_zero, List.set_cons_succ]
          refine wpPart_takeT (i := 2) (oi := { dst := some 86, op := Op.fieldAddr 51 (Operand.tmp 85) 4, type := 0, pos := "meter.go:44", after := #[{ on := 1, ground := Ground.data }], guard := none }) (v := ?_) rfl (by kernel_rfl) (by kernel_rfl) (by kernel_rfl) (by kernel_rfl) (by kernel_rfl) (by kernel_rfl) (fun _ _ _ h => h) (Or.inl ⟨by rfl, ?_⟩) (by assumption) ?_
          rotate_left
          · intro w hSw; (try dsimp only at hSw); go_simp <;> with_reducible rfl
          try simp only [Act.put, List.setIfInBounds_toArray, List.set_cons_zero, List.set_cons_succ]
          refine wpPart_takeT (i := 3) (oi := { dst := some 87, op := Op.load 22 (Operand.tmp 86), type := 22, pos := "meter.go:44", after := #[{ on := 2, ground := Ground.data }], guard := none }) (v := ?_) rfl (by kernel_rfl) (by kernel_rfl) (by kernel_rfl) (by kernel_rfl) (by kernel_rfl) (by kernel_rfl) (fun _ _ _ h => h) (Or.inl ⟨by rfl, ?_⟩) (by assumption) ?_
          rotate_left
          · intro w hSw; (try dsimp only at hSw); go_simp <;> with_reducible rfl
          try simp only [Act.put, List.setIfInBounds_toArray, List.set_cons_zero, List.set_cons_succ]
          refine wpPart_takeT (i := 4) (oi := { dst := some 88, op := Op.move (Operand.tmp 1), type := 22, pos := "meter.go:44", after := #[], guard := none }) (v := ?_) rfl (by kernel_rfl) (by kernel_rfl) (by kernel_rfl) (by kernel_rfl) (by kernel_rfl) (by kernel_rfl) (fun _ _ _ h => h) (Or.inl ⟨by rfl, ?_⟩) (by assumption) ?_
          rotate_left
          · intro w hSw; (try dsimp only at hSw); go_simp <;> with_reducible rfl
          try simp only [Act.put, List.setIfInBounds_toArray, List.set_cons_zero, List.set_cons_succ]
          refine wpPart_takeT (i := 5) (oi := { dst := some 89, op := Op.move (Operand.tmp 0), type := 24, pos := "meter.go:44", after := #[], guard := none }) (v := ?_) rfl (by kernel_rfl) (by kernel_rfl) (by kernel_rfl) (by kernel_rfl) (by kernel_rfl) (by kernel_rfl) (fun _ _ _ h => h) (Or.inl ⟨by rfl, ?_⟩) (by assumption) ?_
          rotate_left
          · intro w hSw; (try dsimp only at hSw); go_simp <;> with_reducible rfl
          try simp only [Act.put, List.setIfInBounds_toArray, List.set_cons_zero, List.set_cons_succ]
          refine wpPart_takeT (i := 6) (oi := { dst := some 90, op := Op.nilCheck (Operand.tmp 89), type := 0, pos := "meter.go:44", after := #[{ on := 5, ground := Ground.data }], guard := none }) (v := ?_) rfl (by kernel_rfl) (by kernel_rfl) (by kernel_rfl) (by kernel_rfl) (by kernel_rfl) (by kernel_rfl) (fun _ _ _ h => h) (Or.inl ⟨by rfl, ?_⟩) (by assumption) ?_
          rotate_left
          · intro w hSw; (try dsimp only at hSw); go_simp <;> with_reducible rfl
          try simp only [Act.put, List.setIfInBounds_toArray, List.set_cons_zero, List.set_cons_succ]
          refine wpPart_takeT (i := 7) (oi := { dst := some 91, op := Op.fieldAddr 51 (Operand.tmp 90) 4, type := 0, pos := "meter.go:44", after := #[{ on := 6, ground := Ground.data }], guard := none }) (v := ?_) rfl (by kernel_rfl) (by kernel_rfl) (by kernel_rfl) (by kernel_rfl) (by kernel_rfl) (by kernel_rfl) (fun _ _ _ h => h) (Or.inl ⟨by rfl, ?_⟩) (by assumption) ?_
          rotate_left
          · intro w hSw; (try dsimp only at hSw); go_simp <;> with_reducible rfl
          try simp only [Act.put, List.setIfInBounds_toArray, List.set_cons_zero, List.set_cons_succ]
          refine wpPart_takeT (i := 8) (oi := { dst := some 92, op := Op.load 22 (Operand.tmp 91), type := 22, pos := "meter.go:44", after := #[{ on := 7, ground := Ground.data }], guard := none }) (v := ?_) rfl (by kernel_rfl) (by kernel_rfl) (by kernel_rfl) (by kernel_rfl) (by kernel_rfl) (by kernel_rfl) (fun _ _ _ h => h) (Or.inl ⟨by rfl, ?_⟩) (by assumption) ?_
          rotate_left
          · intro w hSw; (try dsimp only at hSw); go_simp <;> with_reducible rfl
          try simp only [Act.put, List.setIfInBounds_toArray, List.set_cons_zero, List.set_cons_succ]
          refine wpPart_ready (rs := [9]) (by kernel_rfl) (by simp) ?_
          refine AllPart.cons (o := { dst := some 93, op := Op.binOp BinOp.sub 22 (Operand.tmp 88) (Operand.tmp 92) 22, type := 22, pos := "meter.go:44", after := #[{ on := 4, ground := Ground.data }, { on := 8, ground := Ground.data }], guard := none }) rfl (by kernel_rfl) (fun K hK => ?_) AllPart.nil
          refine step_arith (by rfl) .sub _ _ _ _ (by rfl) (.inr (.inl rfl)) _ _ (by rfl) (by rfl) ?_
          intro d kd hd
          refine hK.out _ _ ?_ (fun hHeld => ?_)
          · exact ⟨hHeld.1, hHeld.2.1, hHeld.2.2.drewN _⟩
          clear hK K
          try simp only [Act.put, List.setIfInBounds_toArray, List.set_cons_zero, List.set_cons_succ]
          refine wpPart_ready (rs := [10]) (by kernel_rfl) (by simp) ?_
          refine AllPart.cons (o := { dst := some 94, op := Op.binOp BinOp.quo 22 (Operand.tmp 93) (Operand.const (Value.float FloatKind.f64 4620693217682128896)) 22, type := 22, pos := "meter.go:44", after := #[{ on := 9, ground := Ground.data }], guard := none }) rfl (by kernel_rfl) (fun K hK => ?_) AllPart.nil
          refine step_arith (by rfl) .quo _ _ _ _ (by rfl) (.inr (.inr rfl)) _ _ (by rfl) (by rfl) ?_
          intro q kq hq
          refine hK.out _ _ ?_ (fun hHeld => ?_)
          · exact ⟨hHeld.1, hHeld.2.1, hHeld.2.2.drewN _⟩
          clear hK K
          try simp only [Act.put, List.setIfInBounds_toArray, List.set_cons_zero, List.set_cons_succ]
          refine wpPart_ready (rs := [11]) (by kernel_rfl) (by simp) ?_
          refine AllPart.cons (o := { dst := some 95, op := Op.binOp BinOp.add 22 (Operand.tmp 87) (Operand.tmp 94) 22, type := 22, pos := "meter.go:44", after := #[{ on := 3, ground := Ground.data }, { on := 10, ground := Ground.data }], guard := none }) rfl (by kernel_rfl) (fun K hK => ?_) AllPart.nil
          refine step_arith (by rfl) .add _ _ _ _ (by rfl) (.inl rfl) _ _ (by rfl) (by rfl) ?_
          intro s2 ks hs2
          refine hK.out _ _ ?_ (fun hHeld => ?_)
          · exact ⟨hHeld.1, hHeld.2.1, hHeld.2.2.drewN _⟩
          clear hK K
          try simp only [Act.put, List.setIfInBounds_toArray, List.set_cons_zero, List.set_cons_succ]
          refine wpPart_takeT (i := 12) (oi := { dst := some 96, op := Op.nilCheck (Operand.tmp 84), type := 0, pos := "meter.go:44", after := #[{ on := 0, ground := Ground.data }, { on := 0, ground := Ground.phase }, { on := 1, ground := Ground.phase }, { on := 2, ground := Ground.phase }, { on := 3, ground := Ground.phase }, { on := 4, ground := Ground.phase }, { on := 5, ground := Ground.phase }, { on := 6, ground := Ground.phase }, { on := 7, ground := Ground.phase }, { on := 8, ground := Ground.phase }, { on := 9, ground := Ground.phase }, { on := 10, ground := Ground.phase }, { on := 11, ground := Ground.phase }], guard := none }) (v := ?_) rfl (by kernel_rfl) (by kernel_rfl) (by kernel_rfl) (by kernel_rfl) (by kernel_rfl) (by kernel_rfl) (fun _ _ _ h => h) (Or.inl ⟨by rfl, ?_⟩) (by assumption) ?_
          rotate_left
          · intro w hSw; (try dsimp only at hSw); go_simp <;> with_reducible rfl
          try simp only [Act.put, List.setIfInBounds_toArray, List.set_cons_zero, List.set_cons_succ]
          refine wpPart_takeT (i := 13) (oi := { dst := some 97, op := Op.fieldAddr 51 (Operand.tmp 96) 4, type := 0, pos := "meter.go:44", after := #[{ on := 12, ground := Ground.data }, { on := 0, ground := Ground.phase }, { on := 1, ground := Ground.phase }, { on := 2, ground := Ground.phase }, { on := 3, ground := Ground.phase }, { on := 4, ground := Ground.phase }, { on := 5, ground := Ground.phase }, { on := 6, ground := Ground.phase }, { on := 7, ground := Ground.phase }, { on := 8, ground := Ground.phase }, { on := 9, ground := Ground.phase }, { on := 10, ground := Ground.phase }, { on := 11, ground := Ground.phase }], guard := none }) (v := ?_) rfl (by kernel_rfl) (by kernel_rfl) (by kernel_rfl) (by kernel_rfl) (by kernel_rfl) (by kernel_rfl) (fun _ _ _ h => h) (Or.inl ⟨by rfl, ?_⟩) (by assumption) ?_
          rotate_left
          · intro w hSw; (try dsimp only at hSw); go_simp <;> with_reducible rfl
          try simp only [Act.put, List.setIfInBounds_toArray, List.set_cons_zero, List.set_cons_succ]
          refine wpPart_ready (rs := [14]) (by kernel_rfl) (by simp) ?_
          refine AllPart.last (o := { dst := none, op := Op.store 22 (Operand.tmp 97) (Operand.tmp 95), type := 0, pos := "meter.go:44", after := #[{ on := 13, ground := Ground.data }, { on := 11, ground := Ground.data }, { on := 0, ground := Ground.phase }, { on := 1, ground := Ground.phase }, { on := 2, ground := Ground.phase }, { on := 3, ground := Ground.phase }, { on := 4, ground := Ground.phase }, { on := 5, ground := Ground.phase }, { on := 6, ground := Ground.phase }, { on := 7, ground := Ground.phase }, { on := 8, ground := Ground.phase }, { on := 9, ground := Ground.phase }, { on := 10, ground := Ground.phase }, { on := 11, ground := Ground.phase }], guard := none }) rfl (by kernel_rfl) (fun K hK => ?_) AllPart.nil
          go_simp
          refine hK.out _ _ ?_
          clear hK K
          try simp only [Act.put, List.setIfInBounds_toArray, List.set_cons_zero, List.set_cons_succ]
          refine wpPart_done (by kernel_rfl) ?_ _
          go_wp2
          go_end0
          exact HEND2.out _ _ _ _ ((Mod.refl _ _).drewN _) hd hq hs2
end Go.Proofs.Ytpjlplkoiedhjaa
