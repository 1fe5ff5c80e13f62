/-
  Package post: boxes, which are channels.
-/
import Derived.Test.YtmpeijlfflfkbaaLone
import Derived.Test.YtmpeijlfflfkbaaChecked
import Derived.Conc.LoneSelectN
namespace Go.Proofs.Ytmpeijlfflfkbaa
open Go.RowKit Go.Shoal Go.Conc
/-- A receive offered on a channel, or on none. -/
def offer (c : Option Nat) (z : Value) : CommCase := { chan := .chan c, send := none, zero := z }

/-- The boxes of a Post. -/
def BoxesI (base : Nat) (w : World) (p n room : Nat) (ls : Nat → List Value) : Prop :=
  ∃ (g : Nat) (c : Nat → Nat), base ≤ p ∧ base ≤ g ∧ w.heap[p]? = some (.cells #[.slice (some ⟨g, 0, none⟩) n n] 56 (0, 0)) ∧
    (∃ cells, w.heap[g]? = some (.cells cells 57 (0, 0)) ∧ ∀ i, i < n → cells[i]? = some (.chan (some (c i)))) ∧
    (∀ i, i < n → base ≤ c i ∧ ∃ s r, w.heap[c i]? = some (.chan room (ls i).toArray false s r false)) ∧ (∀ i j, i < n → j < n → c i = c j → i = j)
/-- The channel of a box. -/
def chanOf (n : Nat) (c : Nat → Nat) (b : Int) : Value := if 0 ≤ b ∧ b < n then .chan (some (c b.toNat)) else .chan none
set_option maxHeartbeats 1000000 in
theorem box_I (p g n : Nat) (c : Nat → Nat) (cells : Array Value) (b : Int) (w : World) (hp : w.heap[p]? = some (.cells #[.slice (some ⟨g, 0, none⟩) n n] 56 (0, 0))) (hg : w.heap[g]? = some (.cells cells 57 (0, 0)))
    (hc : ∀ i, i < n → cells[i]? = some (.chan (some (c i)))) :
    Calls Try.prog 24 #[.pointer (some ⟨p, 0, none⟩), .int .i64 b] w fun e w' => e = .returned (chanOf n c b) ∧ w = w' := by
  have c0 := (blk_cell hp 0).trans rfl
  by_cases h1 : b < 0
  · have hE : Hid (chanOf n c b = .chan none) := by show _ = _; unfold chanOf; rw [if_neg (by omega)]
    clear hc hg hp
    go_enter Try.func24, Try.ntmps24
    go_wp2
    go_ret
    exact ⟨by rw [hE.out]; rfl, rfl⟩
  · by_cases h2 : (n : Int) ≤ b
    · have hE : Hid (chanOf n c b = .chan none) := by show _ = _; unfold chanOf; rw [if_neg (by omega)]
      clear hc hg hp
      go_enter Try.func24, Try.ntmps24
      go_wp2
      go_ret
      exact ⟨by rw [hE.out]; rfl, rfl⟩
    · obtain ⟨k, rfl⟩ := Int.eq_ofNat_of_zero_le (show 0 ≤ b by omega)
      have hk : k < n := by omega
      have hE : Hid (chanOf n c (k : Int) = .chan (some (c k))) := by show _ = _; unfold chanOf; rw [if_pos (by omega)]; rfl
      have ck : w.cell? ⟨g, k, none⟩ = some (.chan (some (c k))) := (blk_cell hg k).trans (hc k hk)
      have hi : (k : Int) < n := by omega
      have hi0 : (0 : Int) ≤ (k : Int) := by omega
      clear hc hg hp h1 h2
      go_enter Try.func24, Try.ntmps24
      go_wp2
      go_ret
      exact ⟨by rw [hE.out]; rfl, rfl⟩
set_option maxHeartbeats 1000000 in
theorem put_room_I (p g n s r room : Nat) (c : Nat → Nat) (cells : Array Value) (k : Nat) (buf : Array Value) (v : Value) (w : World) (hp : w.heap[p]? = some (.cells #[.slice (some ⟨g, 0, none⟩) n n] 56 (0, 0))) (hg : w.heap[g]? = some (.cells cells 57 (0, 0)))
    (hc : ∀ i, i < n → cells[i]? = some (.chan (some (c i)))) (hk : k < n) (hch : w.heap[c k]? = some (.chan room buf false s r false)) (hroom : buf.size < room) :
    Calls Try.prog 9 #[.pointer (some ⟨p, 0, none⟩), .int .i64 k, v] w fun e w' => e = .returned (.bool true) ∧ w.setChan (c k) room (buf.push v) false (s + 1) r false = w' := by
  have HB := Lib.hid (box_I p g n c cells k w hp hg hc)
  have hE : chanOf n c (k : Int) = .chan (some (c k)) := by unfold chanOf; rw [if_pos (by omega)]; rfl
  rw [hE] at HB
  clear hp hg hc hk hE
  generalize c k = ch at HB hch ⊢
  refine callsN Try.func9 rfl ?_
  simp only [Try.ntmps9, List.size_toArray, List.length_cons, List.length_nil, Nat.reduceAdd, Nat.reduceSub, Array.replicate_succ, Array.replicate_zero, List.push_toArray, List.append_toArray, List.nil_append, List.cons_append]
  refine CodeN.seq_wp (fun K hK => ?_)
  go_wp2
  refine CodeN.seq_wp (fun K hK => ?_)
  go_wp2_with fail
  refine HB.out.mono ?_
  rintro e w1 ⟨rfl, rfl⟩
  go_wp2
  refine CodeN.seq ?_
  refine CodeN.region_comm (cases := #[scase ch v (.int .i64 0)]) (blocking := false) (shape := .select) (v := .tuple #[goInt 0, .bool false]) (w' := w) (w'' := w.setChan ch room (buf.push v) false (s + 1) r false) rfl (by simp [go_sem, execOp, scase, Act.eval]) (fun fr cs es h => step_lone_select_send_room h hch hroom) ?_
  simp only [Act.put, List.setIfInBounds_toArray, List.set_cons_zero, List.set_cons_succ]
  go_wp2
  refine CodeN.of_wp ?_
  go_wp2
  go_ret
  exact ⟨rfl, rfl⟩
set_option maxHeartbeats 1000000 in
theorem put_full_I (p g n s r room : Nat) (c : Nat → Nat) (cells : Array Value) (k : Nat) (buf : Array Value) (v : Value) (w : World) (hp : w.heap[p]? = some (.cells #[.slice (some ⟨g, 0, none⟩) n n] 56 (0, 0))) (hg : w.heap[g]? = some (.cells cells 57 (0, 0)))
    (hc : ∀ i, i < n → cells[i]? = some (.chan (some (c i)))) (hk : k < n) (hch : w.heap[c k]? = some (.chan room buf false s r false)) (hfull : room ≤ buf.size) :
    Calls Try.prog 9 #[.pointer (some ⟨p, 0, none⟩), .int .i64 k, v] w fun e w' => e = .returned (.bool false) ∧ w = w' := by
  have HB := Lib.hid (box_I p g n c cells k w hp hg hc)
  have hE : chanOf n c (k : Int) = .chan (some (c k)) := by unfold chanOf; rw [if_pos (by omega)]; rfl
  rw [hE] at HB
  clear hp hg hc hk hE
  generalize c k = ch at HB hch ⊢
  refine callsN Try.func9 rfl ?_
  simp only [Try.ntmps9, List.size_toArray, List.length_cons, List.length_nil, Nat.reduceAdd, Nat.reduceSub, Array.replicate_succ, Array.replicate_zero, List.push_toArray, List.append_toArray, List.nil_append, List.cons_append]
  refine CodeN.seq_wp (fun K hK => ?_)
  go_wp2
  refine CodeN.seq_wp (fun K hK => ?_)
  go_wp2_with fail
  refine HB.out.mono ?_
  rintro e w1 ⟨rfl, rfl⟩
  go_wp2
  refine CodeN.seq ?_
  refine CodeN.region_comm (cases := #[scase ch v (.int .i64 0)]) (blocking := false) (shape := .select) (v := .tuple #[goInt (-1), .bool false]) (w' := w) (w'' := w) rfl (by simp [go_sem, execOp, scase, Act.eval]) (fun fr cs es h => step_lone_select_send_full h hch hfull) ?_
  simp only [Act.put, List.setIfInBounds_toArray, List.set_cons_zero, List.set_cons_succ]
  go_wp2
  refine CodeN.of_wp ?_
  go_wp2
  go_ret
  exact ⟨rfl, rfl⟩
set_option maxHeartbeats 1000000 in
theorem put_none_I (p g n : Nat) (c : Nat → Nat) (cells : Array Value) (b : Int) (v : Value) (w : World) (hp : w.heap[p]? = some (.cells #[.slice (some ⟨g, 0, none⟩) n n] 56 (0, 0))) (hg : w.heap[g]? = some (.cells cells 57 (0, 0)))
    (hc : ∀ i, i < n → cells[i]? = some (.chan (some (c i)))) (hk : ¬ (0 ≤ b ∧ b < n)) :
    Calls Try.prog 9 #[.pointer (some ⟨p, 0, none⟩), .int .i64 b, v] w fun e w' => e = .returned (.bool false) ∧ w = w' := by
  have HB := Lib.hid (box_I p g n c cells b w hp hg hc)
  have hE : chanOf n c b = .chan none := by unfold chanOf; rw [if_neg (by omega)]
  rw [hE] at HB
  clear hp hg hc hk hE
  refine callsN Try.func9 rfl ?_
  simp only [Try.ntmps9, List.size_toArray, List.length_cons, List.length_nil, Nat.reduceAdd, Nat.reduceSub, Array.replicate_succ, Array.replicate_zero, List.push_toArray, List.append_toArray, List.nil_append, List.cons_append]
  refine CodeN.seq_wp (fun K hK => ?_)
  go_wp2
  refine CodeN.seq_wp (fun K hK => ?_)
  go_wp2_with fail
  refine HB.out.mono ?_
  rintro e w1 ⟨rfl, rfl⟩
  go_wp2
  refine CodeN.seq ?_
  refine CodeN.region_comm (cases := #[scaseNil v (.int .i64 0)]) (blocking := false) (shape := .select) (v := .tuple #[goInt (-1), .bool false]) (w' := w) (w'' := w) rfl (by simp [go_sem, execOp, scaseNil, Act.eval]) (fun fr cs es h => step_lone_select_send_nil h) ?_
  simp only [Act.put, List.setIfInBounds_toArray, List.set_cons_zero, List.set_cons_succ]
  go_wp2
  refine CodeN.of_wp ?_
  go_wp2
  go_ret
  exact ⟨rfl, rfl⟩
set_option maxHeartbeats 1000000 in
theorem get_buf_I (p g n s r room : Nat) (c : Nat → Nat) (cells : Array Value) (k : Nat) (buf : Array Value) (x : Value) (w : World) (hp : w.heap[p]? = some (.cells #[.slice (some ⟨g, 0, none⟩) n n] 56 (0, 0))) (hg : w.heap[g]? = some (.cells cells 57 (0, 0)))
    (hc : ∀ i, i < n → cells[i]? = some (.chan (some (c i)))) (hk : k < n) (hch : w.heap[c k]? = some (.chan room buf false s r false)) (hsome : 0 < buf.size) (hx : buf.getD 0 undef = x) :
    Calls Try.prog 12 #[.pointer (some ⟨p, 0, none⟩), .int .i64 k] w fun e w' => e = .returned (.tuple #[x, .bool true]) ∧ w.setChan (c k) room (buf.extract 1 buf.size) false s (r + 1) false = w' := by
  have HB := Lib.hid (box_I p g n c cells k w hp hg hc)
  have hE : chanOf n c (k : Int) = .chan (some (c k)) := by unfold chanOf; rw [if_pos (by omega)]; rfl
  rw [hE] at HB
  clear hp hg hc hk hE
  generalize c k = ch at HB hch ⊢
  refine callsN Try.func12 rfl ?_
  simp only [Try.ntmps12, List.size_toArray, List.length_cons, List.length_nil, Nat.reduceAdd, Nat.reduceSub, Array.replicate_succ, Array.replicate_zero, List.push_toArray, List.append_toArray, List.nil_append, List.cons_append]
  refine CodeN.seq_wp (fun K hK => ?_)
  go_wp2
  refine CodeN.seq_wp (fun K hK => ?_)
  go_wp2
  refine CodeN.seq_wp (fun K hK => ?_)
  go_wp2_with fail
  refine HB.out.mono ?_
  rintro e w1 ⟨rfl, rfl⟩
  go_wp2
  refine CodeN.seq ?_
  refine CodeN.region_comm (cases := #[rcase ch (.int .i64 0)]) (blocking := false) (shape := .select) (v := .tuple #[goInt 0, .bool true, x]) (w' := w) (w'' := w.setChan ch room (buf.extract 1 buf.size) false s (r + 1) false) rfl (by simp [go_sem, execOp, rcase, Act.eval]) (fun fr cs es h => hx ▸ step_lone_select_recv_buf h hch hsome) ?_
  simp only [Act.put, List.setIfInBounds_toArray, List.set_cons_zero, List.set_cons_succ]
  go_wp2
  refine CodeN.of_wp ?_
  go_wp2
  go_ret2
  exact ⟨rfl, rfl⟩
set_option maxHeartbeats 1000000 in
theorem get_empty_I (p g n s r room : Nat) (c : Nat → Nat) (cells : Array Value) (k : Nat) (w : World) (hp : w.heap[p]? = some (.cells #[.slice (some ⟨g, 0, none⟩) n n] 56 (0, 0))) (hg : w.heap[g]? = some (.cells cells 57 (0, 0)))
    (hc : ∀ i, i < n → cells[i]? = some (.chan (some (c i)))) (hk : k < n) (hch : w.heap[c k]? = some (.chan room #[] false s r false)) :
    Calls Try.prog 12 #[.pointer (some ⟨p, 0, none⟩), .int .i64 k] w fun e w' => e = .returned (.tuple #[.int .i64 0, .bool false]) ∧ w = w' := by
  have HB := Lib.hid (box_I p g n c cells k w hp hg hc)
  have hE : chanOf n c (k : Int) = .chan (some (c k)) := by unfold chanOf; rw [if_pos (by omega)]; rfl
  rw [hE] at HB
  clear hp hg hc hk hE
  generalize c k = ch at HB hch ⊢
  refine callsN Try.func12 rfl ?_
  simp only [Try.ntmps12, List.size_toArray, List.length_cons, List.length_nil, Nat.reduceAdd, Nat.reduceSub, Array.replicate_succ, Array.replicate_zero, List.push_toArray, List.append_toArray, List.nil_append, List.cons_append]
  refine CodeN.seq_wp (fun K hK => ?_)
  go_wp2
  refine CodeN.seq_wp (fun K hK => ?_)
  go_wp2
  refine CodeN.seq_wp (fun K hK => ?_)
  go_wp2_with fail
  refine HB.out.mono ?_
  rintro e w1 ⟨rfl, rfl⟩
  go_wp2
  refine CodeN.seq ?_
  refine CodeN.region_comm (cases := #[rcase ch (.int .i64 0)]) (blocking := false) (shape := .select) (v := .tuple #[goInt (-1), .bool false, .int .i64 0]) (w' := w) (w'' := w) rfl (by simp [go_sem, execOp, rcase, Act.eval]) (fun fr cs es h => step_lone_select_default h hch) ?_
  simp only [Act.put, List.setIfInBounds_toArray, List.set_cons_zero, List.set_cons_succ]
  go_wp2
  refine CodeN.of_wp ?_
  go_wp2
  go_ret2
  exact ⟨rfl, rfl⟩
set_option maxHeartbeats 1000000 in
theorem get_none_I (p g n : Nat) (c : Nat → Nat) (cells : Array Value) (b : Int) (w : World) (hp : w.heap[p]? = some (.cells #[.slice (some ⟨g, 0, none⟩) n n] 56 (0, 0))) (hg : w.heap[g]? = some (.cells cells 57 (0, 0)))
    (hc : ∀ i, i < n → cells[i]? = some (.chan (some (c i)))) (hk : ¬ (0 ≤ b ∧ b < n)) :
    Calls Try.prog 12 #[.pointer (some ⟨p, 0, none⟩), .int .i64 b] w fun e w' => e = .returned (.tuple #[.int .i64 0, .bool false]) ∧ w = w' := by
  have HB := Lib.hid (box_I p g n c cells b w hp hg hc)
  have hE : chanOf n c b = .chan none := by unfold chanOf; rw [if_neg (by omega)]
  rw [hE] at HB
  clear hp hg hc hk hE
  refine callsN Try.func12 rfl ?_
  simp only [Try.ntmps12, List.size_toArray, List.length_cons, List.length_nil, Nat.reduceAdd, Nat.reduceSub, Array.replicate_succ, Array.replicate_zero, List.push_toArray, List.append_toArray, List.nil_append, List.cons_append]
  refine CodeN.seq_wp (fun K hK => ?_)
  go_wp2
  refine CodeN.seq_wp (fun K hK => ?_)
  go_wp2
  refine CodeN.seq_wp (fun K hK => ?_)
  go_wp2_with fail
  refine HB.out.mono ?_
  rintro e w1 ⟨rfl, rfl⟩
  go_wp2
  refine CodeN.seq ?_
  refine CodeN.region_comm (cases := #[rcaseNil (.int .i64 0)]) (blocking := false) (shape := .select) (v := .tuple #[goInt (-1), .bool false, .int .i64 0]) (w' := w) (w'' := w) rfl (by simp [go_sem, execOp, rcaseNil, Act.eval]) (fun fr cs es h => step_lone_select_recv_nil h) ?_
  simp only [Act.put, List.setIfInBounds_toArray, List.set_cons_zero, List.set_cons_succ]
  go_wp2
  refine CodeN.of_wp ?_
  go_wp2
  go_ret2
  exact ⟨rfl, rfl⟩
theorem len_nil_I (ty : TypeId) (w : World) : (Builtin.len_ #[57] ty #[.chan none]).run Try.prog w = .ok (.int .i64 0) w := by kernel_rfl
set_option maxHeartbeats 1000000 in
theorem len_in_I (p g n s r room : Nat) (c : Nat → Nat) (cells : Array Value) (k : Nat) (buf : Array Value) (w : World) (hp : w.heap[p]? = some (.cells #[.slice (some ⟨g, 0, none⟩) n n] 56 (0, 0))) (hg : w.heap[g]? = some (.cells cells 57 (0, 0)))
    (hc : ∀ i, i < n → cells[i]? = some (.chan (some (c i)))) (hk : k < n) (hch : w.heap[c k]? = some (.chan room buf false s r false)) :
    Calls Try.prog 11 #[.pointer (some ⟨p, 0, none⟩), .int .i64 k] w fun e w' => e = .returned (.int .i64 buf.size) ∧ w = w' := by
  have HB := Lib.hid (box_I p g n c cells k w hp hg hc)
  have hE : chanOf n c (k : Int) = .chan (some (c k)) := by unfold chanOf; rw [if_pos (by omega)]; rfl
  rw [hE] at HB
  clear hp hg hc hk hE
  generalize c k = ch at HB hch ⊢
  have hlen := fun ty => run_len_chan (P := Try.prog) 57 ty Try.underlying57 hch
  go_enter Try.func11, Try.ntmps11
  go_wp2_with fail
  refine HB.out.mono ?_
  rintro e w1 ⟨rfl, rfl⟩
  go_wp2
  go_ret
  exact ⟨rfl, rfl⟩
set_option maxHeartbeats 1000000 in
theorem len_none_I (p g n : Nat) (c : Nat → Nat) (cells : Array Value) (b : Int) (w : World) (hp : w.heap[p]? = some (.cells #[.slice (some ⟨g, 0, none⟩) n n] 56 (0, 0))) (hg : w.heap[g]? = some (.cells cells 57 (0, 0)))
    (hc : ∀ i, i < n → cells[i]? = some (.chan (some (c i)))) (hk : ¬ (0 ≤ b ∧ b < n)) :
    Calls Try.prog 11 #[.pointer (some ⟨p, 0, none⟩), .int .i64 b] w fun e w' => e = .returned (.int .i64 0) ∧ w = w' := by
  have HB := Lib.hid (box_I p g n c cells b w hp hg hc)
  have hE : chanOf n c b = .chan none := by unfold chanOf; rw [if_neg (by omega)]
  rw [hE] at HB
  clear hp hg hc hk hE
  have hlen := fun ty => len_nil_I ty w
  go_enter Try.func11, Try.ntmps11
  go_wp2_with fail
  refine HB.out.mono ?_
  rintro e w1 ⟨rfl, rfl⟩
  go_wp2
  go_ret
  exact ⟨rfl, rfl⟩
set_option maxHeartbeats 2000000 in
theorem either_first_I (p g n : Nat) (c : Nat → Nat) (cells : Array Value) (a b : Int) (ca : Option Nat) (x : Value) (w2 : World) (w : World) (hp : w.heap[p]? = some (.cells #[.slice (some ⟨g, 0, none⟩) n n] 56 (0, 0))) (hg : w.heap[g]? = some (.cells cells 57 (0, 0)))
    (hc : ∀ i, i < n → cells[i]? = some (.chan (some (c i)))) (ha : chanOf n c a = .chan ca) (H1 : ∀ fr cs es, stepG Try.prog true (G fr cs) w = .comm (G fr cs) #[offer ca (.int .i64 0)] false .select w es → step Try.prog (solo (G fr cs) w) = .next (solo (G (fr.finish (.tuple #[goInt 0, .bool true, x])) cs) (w2))) :
    Calls Try.prog 22 #[.pointer (some ⟨p, 0, none⟩), .int .i64 a, .int .i64 b] w fun e w' => e = .returned (.tuple #[.int .i64 a, x, .bool true]) ∧ w2 = w' := by
  have HA := Lib.hid (box_I p g n c cells a w hp hg hc)
  rw [ha] at HA
  clear hp hg hc ha
  refine callsN Try.func22 rfl ?_
  simp only [Try.ntmps22, List.size_toArray, List.length_cons, List.length_nil, Nat.reduceAdd, Nat.reduceSub, Array.replicate_succ, Array.replicate_zero, List.push_toArray, List.append_toArray, List.nil_append, List.cons_append]
  refine CodeN.seq_wp (fun K hK => ?_)
  go_wp2
  refine CodeN.seq ?_
  refine CodeN.seq_wp (fun K hK => ?_)
  go_wp2_with fail
  refine HA.out.mono ?_
  rintro e w1 ⟨rfl, rfl⟩
  go_wp2
  refine CodeN.seq ?_
  refine CodeN.region_comm (cases := #[offer ca (.int .i64 0)]) (blocking := false) (shape := .select) (v := .tuple #[goInt 0, .bool true, x]) (w' := w) (w'' := w2) rfl (by simp [go_sem, execOp, offer, Act.eval]) (fun fr cs es h => H1 fr cs es h) ?_
  simp only [Act.put, List.setIfInBounds_toArray, List.set_cons_zero, List.set_cons_succ]
  go_wp2
  refine CodeN.of_wp ?_
  go_wp2
  go_ret3
  exact ⟨rfl, rfl⟩
set_option maxHeartbeats 2000000 in
theorem either_second_I (p g n : Nat) (c : Nat → Nat) (cells : Array Value) (a b : Int) (ca cb : Option Nat) (x : Value) (w2 : World) (w : World) (hp : w.heap[p]? = some (.cells #[.slice (some ⟨g, 0, none⟩) n n] 56 (0, 0))) (hg : w.heap[g]? = some (.cells cells 57 (0, 0)))
    (hc : ∀ i, i < n → cells[i]? = some (.chan (some (c i)))) (ha : chanOf n c a = .chan ca) (hb : chanOf n c b = .chan cb) (H1 : ∀ fr cs es, stepG Try.prog true (G fr cs) w = .comm (G fr cs) #[offer ca (.int .i64 0)] false .select w es → step Try.prog (solo (G fr cs) w) = .next (solo (G (fr.finish (.tuple #[goInt (-1), .bool false, .int .i64 0])) cs) (w))) (H2 : ∀ fr cs es, stepG Try.prog true (G fr cs) w = .comm (G fr cs) #[offer cb (.int .i64 0)] false .select w es → step Try.prog (solo (G fr cs) w) = .next (solo (G (fr.finish (.tuple #[goInt 0, .bool true, x])) cs) (w2))) :
    Calls Try.prog 22 #[.pointer (some ⟨p, 0, none⟩), .int .i64 a, .int .i64 b] w fun e w' => e = .returned (.tuple #[.int .i64 b, x, .bool true]) ∧ w2 = w' := by
  have HA := Lib.hid (box_I p g n c cells a w hp hg hc)
  have HB := Lib.hid (box_I p g n c cells b w hp hg hc)
  rw [ha] at HA
  rw [hb] at HB
  clear hp hg hc ha hb
  refine callsN Try.func22 rfl ?_
  simp only [Try.ntmps22, List.size_toArray, List.length_cons, List.length_nil, Nat.reduceAdd, Nat.reduceSub, Array.replicate_succ, Array.replicate_zero, List.push_toArray, List.append_toArray, List.nil_append, List.cons_append]
  refine CodeN.seq_wp (fun K hK => ?_)
  go_wp2
  refine CodeN.seq ?_
  refine CodeN.seq_wp (fun K hK => ?_)
  go_wp2_with fail
  refine HA.out.mono ?_
  rintro e w1 ⟨rfl, rfl⟩
  go_wp2
  refine CodeN.seq ?_
  refine CodeN.region_comm (cases := #[offer ca (.int .i64 0)]) (blocking := false) (shape := .select) (v := .tuple #[goInt (-1), .bool false, .int .i64 0]) (w' := w) (w'' := w) rfl (by simp [go_sem, execOp, offer, Act.eval]) (fun fr cs es h => H1 fr cs es h) ?_
  simp only [Act.put, List.setIfInBounds_toArray, List.set_cons_zero, List.set_cons_succ]
  go_wp2
  refine CodeN.of_wp ?_
  go_wp2
  refine CodeN.seq_wp (fun K hK => ?_)
  go_wp2_with fail
  refine HB.out.mono ?_
  rintro e w1 ⟨rfl, rfl⟩
  go_wp2
  refine CodeN.seq ?_
  refine CodeN.region_comm (cases := #[offer cb (.int .i64 0)]) (blocking := false) (shape := .select) (v := .tuple #[goInt 0, .bool true, x]) (w' := w) (w'' := w2) rfl (by simp [go_sem, execOp, offer, Act.eval]) (fun fr cs es h => H2 fr cs es h) ?_
  simp only [Act.put, List.setIfInBounds_toArray, List.set_cons_zero, List.set_cons_succ]
  go_wp2
  refine CodeN.of_wp ?_
  go_wp2
  go_ret3
  exact ⟨rfl, rfl⟩
set_option maxHeartbeats 2000000 in
theorem either_none_I (p g n : Nat) (c : Nat → Nat) (cells : Array Value) (a b : Int) (ca cb : Option Nat)  (w : World) (hp : w.heap[p]? = some (.cells #[.slice (some ⟨g, 0, none⟩) n n] 56 (0, 0))) (hg : w.heap[g]? = some (.cells cells 57 (0, 0)))
    (hc : ∀ i, i < n → cells[i]? = some (.chan (some (c i)))) (ha : chanOf n c a = .chan ca) (hb : chanOf n c b = .chan cb) (H1 : ∀ fr cs es, stepG Try.prog true (G fr cs) w = .comm (G fr cs) #[offer ca (.int .i64 0)] false .select w es → step Try.prog (solo (G fr cs) w) = .next (solo (G (fr.finish (.tuple #[goInt (-1), .bool false, .int .i64 0])) cs) (w))) (H2 : ∀ fr cs es, stepG Try.prog true (G fr cs) w = .comm (G fr cs) #[offer cb (.int .i64 0)] false .select w es → step Try.prog (solo (G fr cs) w) = .next (solo (G (fr.finish (.tuple #[goInt (-1), .bool false, .int .i64 0])) cs) (w))) :
    Calls Try.prog 22 #[.pointer (some ⟨p, 0, none⟩), .int .i64 a, .int .i64 b] w fun e w' => e = .returned (.tuple #[.int .i64 0, .int .i64 0, .bool false]) ∧ w = w' := by
  have HA := Lib.hid (box_I p g n c cells a w hp hg hc)
  have HB := Lib.hid (box_I p g n c cells b w hp hg hc)
  rw [ha] at HA
  rw [hb] at HB
  clear hp hg hc ha hb
  refine callsN Try.func22 rfl ?_
  simp only [Try.ntmps22, List.size_toArray, List.length_cons, List.length_nil, Nat.reduceAdd, Nat.reduceSub, Array.replicate_succ, Array.replicate_zero, List.push_toArray, List.append_toArray, List.nil_append, List.cons_append]
  refine CodeN.seq_wp (fun K hK => ?_)
  go_wp2
  refine CodeN.seq ?_
  refine CodeN.seq_wp (fun K hK => ?_)
  go_wp2_with fail
  refine HA.out.mono ?_
  rintro e w1 ⟨rfl, rfl⟩
  go_wp2
  refine CodeN.seq ?_
  refine CodeN.region_comm (cases := #[offer ca (.int .i64 0)]) (blocking := false) (shape := .select) (v := .tuple #[goInt (-1), .bool false, .int .i64 0]) (w' := w) (w'' := w) rfl (by simp [go_sem, execOp, offer, Act.eval]) (fun fr cs es h => H1 fr cs es h) ?_
  simp only [Act.put, List.setIfInBounds_toArray, List.set_cons_zero, List.set_cons_succ]
  go_wp2
  refine CodeN.of_wp ?_
  go_wp2
  refine CodeN.seq_wp (fun K hK => ?_)
  go_wp2_with fail
  refine HB.out.mono ?_
  rintro e w1 ⟨rfl, rfl⟩
  go_wp2
  refine CodeN.seq ?_
  refine CodeN.region_comm (cases := #[offer cb (.int .i64 0)]) (blocking := false) (shape := .select) (v := .tuple #[goInt (-1), .bool false, .int .i64 0]) (w' := w) (w'' := w) rfl (by simp [go_sem, execOp, offer, Act.eval]) (fun fr cs es h => H2 fr cs es h) ?_
  simp only [Act.put, List.setIfInBounds_toArray, List.set_cons_zero, List.set_cons_succ]
  go_wp2
  refine CodeN.of_wp ?_
  go_wp2
  go_ret3
  exact ⟨rfl, rfl⟩

/-- The boxes of a Post. -/
def BoxesS (base : Nat) (w : World) (p n room : Nat) (ls : Nat → List Value) : Prop :=
  ∃ (g : Nat) (c : Nat → Nat), base ≤ p ∧ base ≤ g ∧ w.heap[p]? = some (.cells #[.slice (some ⟨g, 0, none⟩) n n] 61 (0, 0)) ∧
    (∃ cells, w.heap[g]? = some (.cells cells 62 (0, 0)) ∧ ∀ i, i < n → cells[i]? = some (.chan (some (c i)))) ∧
    (∀ i, i < n → base ≤ c i ∧ ∃ s r, w.heap[c i]? = some (.chan room (ls i).toArray false s r false)) ∧ (∀ i j, i < n → j < n → c i = c j → i = j)
set_option maxHeartbeats 1000000 in
theorem box_S (p g n : Nat) (c : Nat → Nat) (cells : Array Value) (b : Int) (w : World) (hp : w.heap[p]? = some (.cells #[.slice (some ⟨g, 0, none⟩) n n] 61 (0, 0))) (hg : w.heap[g]? = some (.cells cells 62 (0, 0)))
    (hc : ∀ i, i < n → cells[i]? = some (.chan (some (c i)))) :
    Calls Try.prog 25 #[.pointer (some ⟨p, 0, none⟩), .int .i64 b] w fun e w' => e = .returned (chanOf n c b) ∧ w = w' := by
  have c0 := (blk_cell hp 0).trans rfl
  by_cases h1 : b < 0
  · have hE : Hid (chanOf n c b = .chan none) := by show _ = _; unfold chanOf; rw [if_neg (by omega)]
    clear hc hg hp
    go_enter Try.func25, Try.ntmps25
    go_wp2
    go_ret
    exact ⟨by rw [hE.out]; rfl, rfl⟩
  · by_cases h2 : (n : Int) ≤ b
    · have hE : Hid (chanOf n c b = .chan none) := by show _ = _; unfold chanOf; rw [if_neg (by omega)]
      clear hc hg hp
      go_enter Try.func25, Try.ntmps25
      go_wp2
      go_ret
      exact ⟨by rw [hE.out]; rfl, rfl⟩
    · obtain ⟨k, rfl⟩ := Int.eq_ofNat_of_zero_le (show 0 ≤ b by omega)
      have hk : k < n := by omega
      have hE : Hid (chanOf n c (k : Int) = .chan (some (c k))) := by show _ = _; unfold chanOf; rw [if_pos (by omega)]; rfl
      have ck : w.cell? ⟨g, k, none⟩ = some (.chan (some (c k))) := (blk_cell hg k).trans (hc k hk)
      have hi : (k : Int) < n := by omega
      have hi0 : (0 : Int) ≤ (k : Int) := by omega
      clear hc hg hp h1 h2
      go_enter Try.func25, Try.ntmps25
      go_wp2
      go_ret
      exact ⟨by rw [hE.out]; rfl, rfl⟩
set_option maxHeartbeats 1000000 in
theorem put_room_S (p g n s r room : Nat) (c : Nat → Nat) (cells : Array Value) (k : Nat) (buf : Array Value) (v : Value) (w : World) (hp : w.heap[p]? = some (.cells #[.slice (some ⟨g, 0, none⟩) n n] 61 (0, 0))) (hg : w.heap[g]? = some (.cells cells 62 (0, 0)))
    (hc : ∀ i, i < n → cells[i]? = some (.chan (some (c i)))) (hk : k < n) (hch : w.heap[c k]? = some (.chan room buf false s r false)) (hroom : buf.size < room) :
    Calls Try.prog 14 #[.pointer (some ⟨p, 0, none⟩), .int .i64 k, v] w fun e w' => e = .returned (.bool true) ∧ w.setChan (c k) room (buf.push v) false (s + 1) r false = w' := by
  have HB := Lib.hid (box_S p g n c cells k w hp hg hc)
  have hE : chanOf n c (k : Int) = .chan (some (c k)) := by unfold chanOf; rw [if_pos (by omega)]; rfl
  rw [hE] at HB
  clear hp hg hc hk hE
  generalize c k = ch at HB hch ⊢
  refine callsN Try.func14 rfl ?_
  simp only [Try.ntmps14, List.size_toArray, List.length_cons, List.length_nil, Nat.reduceAdd, Nat.reduceSub, Array.replicate_succ, Array.replicate_zero, List.push_toArray, List.append_toArray, List.nil_append, List.cons_append]
  refine CodeN.seq_wp (fun K hK => ?_)
  go_wp2
  refine CodeN.seq_wp (fun K hK => ?_)
  go_wp2_with fail
  refine HB.out.mono ?_
  rintro e w1 ⟨rfl, rfl⟩
  go_wp2
  refine CodeN.seq ?_
  refine CodeN.region_comm (cases := #[scase ch v (.string ⟨#[]⟩)]) (blocking := false) (shape := .select) (v := .tuple #[goInt 0, .bool false]) (w' := w) (w'' := w.setChan ch room (buf.push v) false (s + 1) r false) rfl (by simp [go_sem, execOp, scase, Act.eval]) (fun fr cs es h => step_lone_select_send_room h hch hroom) ?_
  simp only [Act.put, List.setIfInBounds_toArray, List.set_cons_zero, List.set_cons_succ]
  go_wp2
  refine CodeN.of_wp ?_
  go_wp2
  go_ret
  exact ⟨rfl, rfl⟩
set_option maxHeartbeats 1000000 in
theorem put_full_S (p g n s r room : Nat) (c : Nat → Nat) (cells : Array Value) (k : Nat) (buf : Array Value) (v : Value) (w : World) (hp : w.heap[p]? = some (.cells #[.slice (some ⟨g, 0, none⟩) n n] 61 (0, 0))) (hg : w.heap[g]? = some (.cells cells 62 (0, 0)))
    (hc : ∀ i, i < n → cells[i]? = some (.chan (some (c i)))) (hk : k < n) (hch : w.heap[c k]? = some (.chan room buf false s r false)) (hfull : room ≤ buf.size) :
    Calls Try.prog 14 #[.pointer (some ⟨p, 0, none⟩), .int .i64 k, v] w fun e w' => e = .returned (.bool false) ∧ w = w' := by
  have HB := Lib.hid (box_S p g n c cells k w hp hg hc)
  have hE : chanOf n c (k : Int) = .chan (some (c k)) := by unfold chanOf; rw [if_pos (by omega)]; rfl
  rw [hE] at HB
  clear hp hg hc hk hE
  generalize c k = ch at HB hch ⊢
  refine callsN Try.func14 rfl ?_
  simp only [Try.ntmps14, List.size_toArray, List.length_cons, List.length_nil, Nat.reduceAdd, Nat.reduceSub, Array.replicate_succ, Array.replicate_zero, List.push_toArray, List.append_toArray, List.nil_append, List.cons_append]
  refine CodeN.seq_wp (fun K hK => ?_)
  go_wp2
  refine CodeN.seq_wp (fun K hK => ?_)
  go_wp2_with fail
  refine HB.out.mono ?_
  rintro e w1 ⟨rfl, rfl⟩
  go_wp2
  refine CodeN.seq ?_
  refine CodeN.region_comm (cases := #[scase ch v (.string ⟨#[]⟩)]) (blocking := false) (shape := .select) (v := .tuple #[goInt (-1), .bool false]) (w' := w) (w'' := w) rfl (by simp [go_sem, execOp, scase, Act.eval]) (fun fr cs es h => step_lone_select_send_full h hch hfull) ?_
  simp only [Act.put, List.setIfInBounds_toArray, List.set_cons_zero, List.set_cons_succ]
  go_wp2
  refine CodeN.of_wp ?_
  go_wp2
  go_ret
  exact ⟨rfl, rfl⟩
set_option maxHeartbeats 1000000 in
theorem put_none_S (p g n : Nat) (c : Nat → Nat) (cells : Array Value) (b : Int) (v : Value) (w : World) (hp : w.heap[p]? = some (.cells #[.slice (some ⟨g, 0, none⟩) n n] 61 (0, 0))) (hg : w.heap[g]? = some (.cells cells 62 (0, 0)))
    (hc : ∀ i, i < n → cells[i]? = some (.chan (some (c i)))) (hk : ¬ (0 ≤ b ∧ b < n)) :
    Calls Try.prog 14 #[.pointer (some ⟨p, 0, none⟩), .int .i64 b, v] w fun e w' => e = .returned (.bool false) ∧ w = w' := by
  have HB := Lib.hid (box_S p g n c cells b w hp hg hc)
  have hE : chanOf n c b = .chan none := by unfold chanOf; rw [if_neg (by omega)]
  rw [hE] at HB
  clear hp hg hc hk hE
  refine callsN Try.func14 rfl ?_
  simp only [Try.ntmps14, List.size_toArray, List.length_cons, List.length_nil, Nat.reduceAdd, Nat.reduceSub, Array.replicate_succ, Array.replicate_zero, List.push_toArray, List.append_toArray, List.nil_append, List.cons_append]
  refine CodeN.seq_wp (fun K hK => ?_)
  go_wp2
  refine CodeN.seq_wp (fun K hK => ?_)
  go_wp2_with fail
  refine HB.out.mono ?_
  rintro e w1 ⟨rfl, rfl⟩
  go_wp2
  refine CodeN.seq ?_
  refine CodeN.region_comm (cases := #[scaseNil v (.string ⟨#[]⟩)]) (blocking := false) (shape := .select) (v := .tuple #[goInt (-1), .bool false]) (w' := w) (w'' := w) rfl (by simp [go_sem, execOp, scaseNil, Act.eval]) (fun fr cs es h => step_lone_select_send_nil h) ?_
  simp only [Act.put, List.setIfInBounds_toArray, List.set_cons_zero, List.set_cons_succ]
  go_wp2
  refine CodeN.of_wp ?_
  go_wp2
  go_ret
  exact ⟨rfl, rfl⟩
set_option maxHeartbeats 1000000 in
theorem get_buf_S (p g n s r room : Nat) (c : Nat → Nat) (cells : Array Value) (k : Nat) (buf : Array Value) (x : Value) (w : World) (hp : w.heap[p]? = some (.cells #[.slice (some ⟨g, 0, none⟩) n n] 61 (0, 0))) (hg : w.heap[g]? = some (.cells cells 62 (0, 0)))
    (hc : ∀ i, i < n → cells[i]? = some (.chan (some (c i)))) (hk : k < n) (hch : w.heap[c k]? = some (.chan room buf false s r false)) (hsome : 0 < buf.size) (hx : buf.getD 0 undef = x) :
    Calls Try.prog 15 #[.pointer (some ⟨p, 0, none⟩), .int .i64 k] w fun e w' => e = .returned (.tuple #[x, .bool true]) ∧ w.setChan (c k) room (buf.extract 1 buf.size) false s (r + 1) false = w' := by
  have HB := Lib.hid (box_S p g n c cells k w hp hg hc)
  have hE : chanOf n c (k : Int) = .chan (some (c k)) := by unfold chanOf; rw [if_pos (by omega)]; rfl
  rw [hE] at HB
  clear hp hg hc hk hE
  generalize c k = ch at HB hch ⊢
  refine callsN Try.func15 rfl ?_
  simp only [Try.ntmps15, List.size_toArray, List.length_cons, List.length_nil, Nat.reduceAdd, Nat.reduceSub, Array.replicate_succ, Array.replicate_zero, List.push_toArray, List.append_toArray, List.nil_append, List.cons_append]
  refine CodeN.seq_wp (fun K hK => ?_)
  go_wp2
  refine CodeN.seq_wp (fun K hK => ?_)
  go_wp2
  refine CodeN.seq_wp (fun K hK => ?_)
  go_wp2_with fail
  refine HB.out.mono ?_
  rintro e w1 ⟨rfl, rfl⟩
  go_wp2
  refine CodeN.seq ?_
  refine CodeN.region_comm (cases := #[rcase ch (.string ⟨#[]⟩)]) (blocking := false) (shape := .select) (v := .tuple #[goInt 0, .bool true, x]) (w' := w) (w'' := w.setChan ch room (buf.extract 1 buf.size) false s (r + 1) false) rfl (by simp [go_sem, execOp, rcase, Act.eval]) (fun fr cs es h => hx ▸ step_lone_select_recv_buf h hch hsome) ?_
  simp only [Act.put, List.setIfInBounds_toArray, List.set_cons_zero, List.set_cons_succ]
  go_wp2
  refine CodeN.of_wp ?_
  go_wp2
  go_ret2
  exact ⟨rfl, rfl⟩
set_option maxHeartbeats 1000000 in
theorem get_empty_S (p g n s r room : Nat) (c : Nat → Nat) (cells : Array Value) (k : Nat) (w : World) (hp : w.heap[p]? = some (.cells #[.slice (some ⟨g, 0, none⟩) n n] 61 (0, 0))) (hg : w.heap[g]? = some (.cells cells 62 (0, 0)))
    (hc : ∀ i, i < n → cells[i]? = some (.chan (some (c i)))) (hk : k < n) (hch : w.heap[c k]? = some (.chan room #[] false s r false)) :
    Calls Try.prog 15 #[.pointer (some ⟨p, 0, none⟩), .int .i64 k] w fun e w' => e = .returned (.tuple #[.string ⟨#[]⟩, .bool false]) ∧ w = w' := by
  have HB := Lib.hid (box_S p g n c cells k w hp hg hc)
  have hE : chanOf n c (k : Int) = .chan (some (c k)) := by unfold chanOf; rw [if_pos (by omega)]; rfl
  rw [hE] at HB
  clear hp hg hc hk hE
  generalize c k = ch at HB hch ⊢
  refine callsN Try.func15 rfl ?_
  simp only [Try.ntmps15, List.size_toArray, List.length_cons, List.length_nil, Nat.reduceAdd, Nat.reduceSub, Array.replicate_succ, Array.replicate_zero, List.push_toArray, List.append_toArray, List.nil_append, List.cons_append]
  refine CodeN.seq_wp (fun K hK => ?_)
  go_wp2
  refine CodeN.seq_wp (fun K hK => ?_)
  go_wp2
  refine CodeN.seq_wp (fun K hK => ?_)
  go_wp2_with fail
  refine HB.out.mono ?_
  rintro e w1 ⟨rfl, rfl⟩
  go_wp2
  refine CodeN.seq ?_
  refine CodeN.region_comm (cases := #[rcase ch (.string ⟨#[]⟩)]) (blocking := false) (shape := .select) (v := .tuple #[goInt (-1), .bool false, .string ⟨#[]⟩]) (w' := w) (w'' := w) rfl (by simp [go_sem, execOp, rcase, Act.eval]) (fun fr cs es h => step_lone_select_default h hch) ?_
  simp only [Act.put, List.setIfInBounds_toArray, List.set_cons_zero, List.set_cons_succ]
  go_wp2
  refine CodeN.of_wp ?_
  go_wp2
  go_ret2
  exact ⟨rfl, rfl⟩
set_option maxHeartbeats 1000000 in
theorem get_none_S (p g n : Nat) (c : Nat → Nat) (cells : Array Value) (b : Int) (w : World) (hp : w.heap[p]? = some (.cells #[.slice (some ⟨g, 0, none⟩) n n] 61 (0, 0))) (hg : w.heap[g]? = some (.cells cells 62 (0, 0)))
    (hc : ∀ i, i < n → cells[i]? = some (.chan (some (c i)))) (hk : ¬ (0 ≤ b ∧ b < n)) :
    Calls Try.prog 15 #[.pointer (some ⟨p, 0, none⟩), .int .i64 b] w fun e w' => e = .returned (.tuple #[.string ⟨#[]⟩, .bool false]) ∧ w = w' := by
  have HB := Lib.hid (box_S p g n c cells b w hp hg hc)
  have hE : chanOf n c b = .chan none := by unfold chanOf; rw [if_neg (by omega)]
  rw [hE] at HB
  clear hp hg hc hk hE
  refine callsN Try.func15 rfl ?_
  simp only [Try.ntmps15, List.size_toArray, List.length_cons, List.length_nil, Nat.reduceAdd, Nat.reduceSub, Array.replicate_succ, Array.replicate_zero, List.push_toArray, List.append_toArray, List.nil_append, List.cons_append]
  refine CodeN.seq_wp (fun K hK => ?_)
  go_wp2
  refine CodeN.seq_wp (fun K hK => ?_)
  go_wp2
  refine CodeN.seq_wp (fun K hK => ?_)
  go_wp2_with fail
  refine HB.out.mono ?_
  rintro e w1 ⟨rfl, rfl⟩
  go_wp2
  refine CodeN.seq ?_
  refine CodeN.region_comm (cases := #[rcaseNil (.string ⟨#[]⟩)]) (blocking := false) (shape := .select) (v := .tuple #[goInt (-1), .bool false, .string ⟨#[]⟩]) (w' := w) (w'' := w) rfl (by simp [go_sem, execOp, rcaseNil, Act.eval]) (fun fr cs es h => step_lone_select_recv_nil h) ?_
  simp only [Act.put, List.setIfInBounds_toArray, List.set_cons_zero, List.set_cons_succ]
  go_wp2
  refine CodeN.of_wp ?_
  go_wp2
  go_ret2
  exact ⟨rfl, rfl⟩
theorem len_nil_S (ty : TypeId) (w : World) : (Builtin.len_ #[62] ty #[.chan none]).run Try.prog w = .ok (.int .i64 0) w := by kernel_rfl
set_option maxHeartbeats 1000000 in
theorem len_in_S (p g n s r room : Nat) (c : Nat → Nat) (cells : Array Value) (k : Nat) (buf : Array Value) (w : World) (hp : w.heap[p]? = some (.cells #[.slice (some ⟨g, 0, none⟩) n n] 61 (0, 0))) (hg : w.heap[g]? = some (.cells cells 62 (0, 0)))
    (hc : ∀ i, i < n → cells[i]? = some (.chan (some (c i)))) (hk : k < n) (hch : w.heap[c k]? = some (.chan room buf false s r false)) :
    Calls Try.prog 18 #[.pointer (some ⟨p, 0, none⟩), .int .i64 k] w fun e w' => e = .returned (.int .i64 buf.size) ∧ w = w' := by
  have HB := Lib.hid (box_S p g n c cells k w hp hg hc)
  have hE : chanOf n c (k : Int) = .chan (some (c k)) := by unfold chanOf; rw [if_pos (by omega)]; rfl
  rw [hE] at HB
  clear hp hg hc hk hE
  generalize c k = ch at HB hch ⊢
  have hlen := fun ty => run_len_chan (P := Try.prog) 62 ty Try.underlying62 hch
  go_enter Try.func18, Try.ntmps18
  go_wp2_with fail
  refine HB.out.mono ?_
  rintro e w1 ⟨rfl, rfl⟩
  go_wp2
  go_ret
  exact ⟨rfl, rfl⟩
set_option maxHeartbeats 1000000 in
theorem len_none_S (p g n : Nat) (c : Nat → Nat) (cells : Array Value) (b : Int) (w : World) (hp : w.heap[p]? = some (.cells #[.slice (some ⟨g, 0, none⟩) n n] 61 (0, 0))) (hg : w.heap[g]? = some (.cells cells 62 (0, 0)))
    (hc : ∀ i, i < n → cells[i]? = some (.chan (some (c i)))) (hk : ¬ (0 ≤ b ∧ b < n)) :
    Calls Try.prog 18 #[.pointer (some ⟨p, 0, none⟩), .int .i64 b] w fun e w' => e = .returned (.int .i64 0) ∧ w = w' := by
  have HB := Lib.hid (box_S p g n c cells b w hp hg hc)
  have hE : chanOf n c b = .chan none := by unfold chanOf; rw [if_neg (by omega)]
  rw [hE] at HB
  clear hp hg hc hk hE
  have hlen := fun ty => len_nil_S ty w
  go_enter Try.func18, Try.ntmps18
  go_wp2_with fail
  refine HB.out.mono ?_
  rintro e w1 ⟨rfl, rfl⟩
  go_wp2
  go_ret
  exact ⟨rfl, rfl⟩
set_option maxHeartbeats 2000000 in
theorem either_first_S (p g n : Nat) (c : Nat → Nat) (cells : Array Value) (a b : Int) (ca : Option Nat) (x : Value) (w2 : World) (w : World) (hp : w.heap[p]? = some (.cells #[.slice (some ⟨g, 0, none⟩) n n] 61 (0, 0))) (hg : w.heap[g]? = some (.cells cells 62 (0, 0)))
    (hc : ∀ i, i < n → cells[i]? = some (.chan (some (c i)))) (ha : chanOf n c a = .chan ca) (H1 : ∀ fr cs es, stepG Try.prog true (G fr cs) w = .comm (G fr cs) #[offer ca (.string ⟨#[]⟩)] false .select w es → step Try.prog (solo (G fr cs) w) = .next (solo (G (fr.finish (.tuple #[goInt 0, .bool true, x])) cs) (w2))) :
    Calls Try.prog 16 #[.pointer (some ⟨p, 0, none⟩), .int .i64 a, .int .i64 b] w fun e w' => e = .returned (.tuple #[.int .i64 a, x, .bool true]) ∧ w2 = w' := by
  have HA := Lib.hid (box_S p g n c cells a w hp hg hc)
  rw [ha] at HA
  clear hp hg hc ha
  refine callsN Try.func16 rfl ?_
  simp only [Try.ntmps16, List.size_toArray, List.length_cons, List.length_nil, Nat.reduceAdd, Nat.reduceSub, Array.replicate_succ, Array.replicate_zero, List.push_toArray, List.append_toArray, List.nil_append, List.cons_append]
  refine CodeN.seq_wp (fun K hK => ?_)
  go_wp2
  refine CodeN.seq ?_
  refine CodeN.seq_wp (fun K hK => ?_)
  go_wp2_with fail
  refine HA.out.mono ?_
  rintro e w1 ⟨rfl, rfl⟩
  go_wp2
  refine CodeN.seq ?_
  refine CodeN.region_comm (cases := #[offer ca (.string ⟨#[]⟩)]) (blocking := false) (shape := .select) (v := .tuple #[goInt 0, .bool true, x]) (w' := w) (w'' := w2) rfl (by simp [go_sem, execOp, offer, Act.eval]) (fun fr cs es h => H1 fr cs es h) ?_
  simp only [Act.put, List.setIfInBounds_toArray, List.set_cons_zero, List.set_cons_succ]
  go_wp2
  refine CodeN.of_wp ?_
  go_wp2
  go_ret3
  exact ⟨rfl, rfl⟩
set_option maxHeartbeats 2000000 in
theorem either_second_S (p g n : Nat) (c : Nat → Nat) (cells : Array Value) (a b : Int) (ca cb : Option Nat) (x : Value) (w2 : World) (w : World) (hp : w.heap[p]? = some (.cells #[.slice (some ⟨g, 0, none⟩) n n] 61 (0, 0))) (hg : w.heap[g]? = some (.cells cells 62 (0, 0)))
    (hc : ∀ i, i < n → cells[i]? = some (.chan (some (c i)))) (ha : chanOf n c a = .chan ca) (hb : chanOf n c b = .chan cb) (H1 : ∀ fr cs es, stepG Try.prog true (G fr cs) w = .comm (G fr cs) #[offer ca (.string ⟨#[]⟩)] false .select w es → step Try.prog (solo (G fr cs) w) = .next (solo (G (fr.finish (.tuple #[goInt (-1), .bool false, .string ⟨#[]⟩])) cs) (w))) (H2 : ∀ fr cs es, stepG Try.prog true (G fr cs) w = .comm (G fr cs) #[offer cb (.string ⟨#[]⟩)] false .select w es → step Try.prog (solo (G fr cs) w) = .next (solo (G (fr.finish (.tuple #[goInt 0, .bool true, x])) cs) (w2))) :
    Calls Try.prog 16 #[.pointer (some ⟨p, 0, none⟩), .int .i64 a, .int .i64 b] w fun e w' => e = .returned (.tuple #[.int .i64 b, x, .bool true]) ∧ w2 = w' := by
  have HA := Lib.hid (box_S p g n c cells a w hp hg hc)
  have HB := Lib.hid (box_S p g n c cells b w hp hg hc)
  rw [ha] at HA
  rw [hb] at HB
  clear hp hg hc ha hb
  refine callsN Try.func16 rfl ?_
  simp only [Try.ntmps16, List.size_toArray, List.length_cons, List.length_nil, Nat.reduceAdd, Nat.reduceSub, Array.replicate_succ, Array.replicate_zero, List.push_toArray, List.append_toArray, List.nil_append, List.cons_append]
  refine CodeN.seq_wp (fun K hK => ?_)
  go_wp2
  refine CodeN.seq ?_
  refine CodeN.seq_wp (fun K hK => ?_)
  go_wp2_with fail
  refine HA.out.mono ?_
  rintro e w1 ⟨rfl, rfl⟩
  go_wp2
  refine CodeN.seq ?_
  refine CodeN.region_comm (cases := #[offer ca (.string ⟨#[]⟩)]) (blocking := false) (shape := .select) (v := .tuple #[goInt (-1), .bool false, .string ⟨#[]⟩]) (w' := w) (w'' := w) rfl (by simp [go_sem, execOp, offer, Act.eval]) (fun fr cs es h => H1 fr cs es h) ?_
  simp only [Act.put, List.setIfInBounds_toArray, List.set_cons_zero, List.set_cons_succ]
  go_wp2
  refine CodeN.of_wp ?_
  go_wp2
  refine CodeN.seq_wp (fun K hK => ?_)
  go_wp2_with fail
  refine HB.out.mono ?_
  rintro e w1 ⟨rfl, rfl⟩
  go_wp2
  refine CodeN.seq ?_
  refine CodeN.region_comm (cases := #[offer cb (.string ⟨#[]⟩)]) (blocking := false) (shape := .select) (v := .tuple #[goInt 0, .bool true, x]) (w' := w) (w'' := w2) rfl (by simp [go_sem, execOp, offer, Act.eval]) (fun fr cs es h => H2 fr cs es h) ?_
  simp only [Act.put, List.setIfInBounds_toArray, List.set_cons_zero, List.set_cons_succ]
  go_wp2
  refine CodeN.of_wp ?_
  go_wp2
  go_ret3
  exact ⟨rfl, rfl⟩
set_option maxHeartbeats 2000000 in
theorem either_none_S (p g n : Nat) (c : Nat → Nat) (cells : Array Value) (a b : Int) (ca cb : Option Nat)  (w : World) (hp : w.heap[p]? = some (.cells #[.slice (some ⟨g, 0, none⟩) n n] 61 (0, 0))) (hg : w.heap[g]? = some (.cells cells 62 (0, 0)))
    (hc : ∀ i, i < n → cells[i]? = some (.chan (some (c i)))) (ha : chanOf n c a = .chan ca) (hb : chanOf n c b = .chan cb) (H1 : ∀ fr cs es, stepG Try.prog true (G fr cs) w = .comm (G fr cs) #[offer ca (.string ⟨#[]⟩)] false .select w es → step Try.prog (solo (G fr cs) w) = .next (solo (G (fr.finish (.tuple #[goInt (-1), .bool false, .string ⟨#[]⟩])) cs) (w))) (H2 : ∀ fr cs es, stepG Try.prog true (G fr cs) w = .comm (G fr cs) #[offer cb (.string ⟨#[]⟩)] false .select w es → step Try.prog (solo (G fr cs) w) = .next (solo (G (fr.finish (.tuple #[goInt (-1), .bool false, .string ⟨#[]⟩])) cs) (w))) :
    Calls Try.prog 16 #[.pointer (some ⟨p, 0, none⟩), .int .i64 a, .int .i64 b] w fun e w' => e = .returned (.tuple #[.int .i64 0, .string ⟨#[]⟩, .bool false]) ∧ w = w' := by
  have HA := Lib.hid (box_S p g n c cells a w hp hg hc)
  have HB := Lib.hid (box_S p g n c cells b w hp hg hc)
  rw [ha] at HA
  rw [hb] at HB
  clear hp hg hc ha hb
  refine callsN Try.func16 rfl ?_
  simp only [Try.ntmps16, List.size_toArray, List.length_cons, List.length_nil, Nat.reduceAdd, Nat.reduceSub, Array.replicate_succ, Array.replicate_zero, List.push_toArray, List.append_toArray, List.nil_append, List.cons_append]
  refine CodeN.seq_wp (fun K hK => ?_)
  go_wp2
  refine CodeN.seq ?_
  refine CodeN.seq_wp (fun K hK => ?_)
  go_wp2_with fail
  refine HA.out.mono ?_
  rintro e w1 ⟨rfl, rfl⟩
  go_wp2
  refine CodeN.seq ?_
  refine CodeN.region_comm (cases := #[offer ca (.string ⟨#[]⟩)]) (blocking := false) (shape := .select) (v := .tuple #[goInt (-1), .bool false, .string ⟨#[]⟩]) (w' := w) (w'' := w) rfl (by simp [go_sem, execOp, offer, Act.eval]) (fun fr cs es h => H1 fr cs es h) ?_
  simp only [Act.put, List.setIfInBounds_toArray, List.set_cons_zero, List.set_cons_succ]
  go_wp2
  refine CodeN.of_wp ?_
  go_wp2
  refine CodeN.seq_wp (fun K hK => ?_)
  go_wp2_with fail
  refine HB.out.mono ?_
  rintro e w1 ⟨rfl, rfl⟩
  go_wp2
  refine CodeN.seq ?_
  refine CodeN.region_comm (cases := #[offer cb (.string ⟨#[]⟩)]) (blocking := false) (shape := .select) (v := .tuple #[goInt (-1), .bool false, .string ⟨#[]⟩]) (w' := w) (w'' := w) rfl (by simp [go_sem, execOp, offer, Act.eval]) (fun fr cs es h => H2 fr cs es h) ?_
  simp only [Act.put, List.setIfInBounds_toArray, List.set_cons_zero, List.set_cons_succ]
  go_wp2
  refine CodeN.of_wp ?_
  go_wp2
  go_ret3
  exact ⟨rfl, rfl⟩

end Go.Proofs.Ytmpeijlfflfkbaa
