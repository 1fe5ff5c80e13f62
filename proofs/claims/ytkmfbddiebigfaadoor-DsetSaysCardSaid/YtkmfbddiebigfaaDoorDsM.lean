/-
  The reference's Digits, ShowSet.
-/
import Derived.Test.YtkmfbddiebigfaaDoorDsL
import Derived.Laws.IdiomStrings
import Derived.Deep.RegionWith
namespace Go.Proofs.YtkmfbddiebigfaaDoor
open Go.RowKit Go.Shoal

/-- One letter's row as a string. -/
theorem conv_one {W : World} {b d : Nat} (hd : d < 10) (h : W.heap[b]? = some (.cells #[.int .u8 (48 + (d : Int))] 5 (0, 0))) :
    (convert 65 9 (.slice (some ⟨b, 0, none⟩) 1 1)).run Tryd.prog W = .ok (.string ⟨#[UInt8.ofNat (48 + d)]⟩) W :=
  run_convert_bytes_back (P := Tryd.prog) W 65 9 5 ⟨b, 0, none⟩ 1 [UInt8.ofNat (48 + d)] Tryd.underlying65 Tryd.underlying5 Tryd.underlying9 (fun j hj => by
    obtain rfl : j = 0 := by have : j < 1 := hj; omega
    show W.cell? ⟨b, 0 + 0, none⟩ = _
    rw [blk_cell h]
    have e : (UInt8.ofNat (48 + d)).toNat = 48 + d := by rw [UInt8.toNat_ofNat']; omega
    show some (Value.int .u8 (48 + (d : Int))) = some (.int .u8 ((UInt8.ofNat (48 + d)).toNat : Int))
    rw [e]
    congr 2)
theorem dec_step (n : Nat) (h : ¬ n < 10) : itoaB n = itoaB (n / 10) ++ ⟨#[UInt8.ofNat (48 + n % 10)]⟩ := by
  have e : Lib.decDigits n = Lib.decDigits (n / 10) ++ [UInt8.ofNat (48 + n % 10)] := by
    rw [Lib.decDigits, dif_neg h]
  unfold itoaB
  rw [e]
  exact (str_app _ _).symm
theorem dec_one (n : Nat) (h : n < 10) : itoaB n = ⟨#[UInt8.ofNat (48 + n)]⟩ := by
  unfold itoaB
  rw [Lib.decDigits_one h]
theorem dec_size : ∀ (k n : Nat), n < 10 ^ (k + 1) → (itoaB n).size ≤ k + 1
  | 0, n, h => by rw [dec_one n (by omega)]; exact Nat.le_refl _
  | k + 1, n, h => by
    by_cases h1 : n < 10
    · rw [dec_one n h1]; show 1 ≤ _; omega
    · have := dec_size k (n / 10) (by rw [Nat.pow_succ] at h; omega)
      rw [dec_step n h1, ByteArray.size_append]
      show _ + 1 ≤ _
      omega
set_option maxRecDepth 100000 in
set_option maxHeartbeats 4000000 in
theorem rdigits_any (n : Nat) : ∀ (w : World), n < 18446744073709551616 → Calls Tryd.prog 33 #[.int .u64 n] w fun e w' => e = .returned (.string (itoaB n)) ∧ Mod (fun _ => False) w w' := by
  induction n using Nat.strongRecOn with
  | ind n ih =>
    intro w hn
    by_cases h : n < 10
    · have hi : (n : Int) < 10 := by omega
      have hw : IntKind.u8.wrap (48 + (n : Int)) = 48 + (n : Int) := by rw [IntKind.wrap_u8]; omega
      have hc := conv_one h (blk_new w (.cells #[.int .u8 (48 + (n : Int))] 5))
      have HE := Lib.hid (dec_one n h)
      clear ih h
      generalize UInt8.ofNat (48 + n) = c at *
      go_enter Tryd.func33, Tryd.ntmps33
      go_wp2
      go_ret
      exact ⟨by rw [HE.out]; rfl, (Mod.refl _ _).alloc _⟩
    · have hi : ¬ (n : Int) < 10 := by omega
      have IH := Lib.hid (fun W => ih (n / 10) (by omega) W (by omega))
      have hz : (itoaB (n / 10)).size ≤ 20 := dec_size 19 (n / 10) (by omega)
      have hd : n % 10 < 10 := Nat.mod_lt _ (by decide)
      have hw : IntKind.u8.wrap (48 + ((n % 10 : Nat) : Int)) = 48 + ((n % 10 : Nat) : Int) := by rw [IntKind.wrap_u8]; omega
      have HE := Lib.hid (dec_step n h)
      have e1 : (n : Int) / 10 = ((n / 10 : Nat) : Int) := by omega
      have e2 : (n : Int) % 10 = ((n % 10 : Nat) : Int) := by omega
      have e3 : (n : Int).tmod 10 = ((n % 10 : Nat) : Int) := by rw [Int.tmod_eq_emod_of_nonneg (by omega)]; omega
      have hwq : IntKind.u64.wrap ((n / 10 : Nat) : Int) = ((n / 10 : Nat) : Int) := by rw [IntKind.wrap_u64]; omega
      have hw2 : IntKind.u64.wrap (48 + ((n % 10 : Nat) : Int)) = 48 + ((n % 10 : Nat) : Int) := by rw [IntKind.wrap_u64]; omega
      have HC : Hid (∀ (W : World) (b : Nat), W.heap[b]? = some (.cells #[.int .u8 (48 + ((n % 10 : Nat) : Int))] 5 (0, 0)) → (convert 65 9 (.slice (some ⟨b, 0, none⟩) 1 1)).run Tryd.prog W = .ok (.string ⟨#[UInt8.ofNat (48 + n % 10)]⟩) W) := fun W b hb => conv_one hd hb
      clear ih h hd
      generalize itoaB (n / 10) = q at *
      generalize UInt8.ofNat (48 + n % 10) = c at *
      generalize n / 10 = n1 at *
      generalize n % 10 = d at *
      have hcA := HC.out ((w.alloc (.cells #[.int .u8 (48 + (d : Int))] 5)).drew) w.heap.size (blk_new w _)
      have hz2 : q.size + (⟨#[c]⟩ : ByteArray).size ≤ 9223372036854775807 := by show q.size + 1 ≤ _; omega
      have hs0 : w.heap.size ≤ ((w.alloc (.cells #[.int .u8 (48 + (d : Int))] 5)).drew).heap.size := ((Mod.refl (fun _ => False) w).alloc _).drew.size
      go_enter Tryd.func33, Tryd.ntmps33
      go_wp2_with fail
      go_region_with (first | (go_at_call 33; (with_reducible refine (IH.out (w.drew)).mono ?_); rintro e w1 ⟨rfl, hm⟩; have hcB := HC.out (w1.alloc (.cells #[.int .u8 (48 + (d : Int))] 5)) w1.heap.size (blk_new w1 _); have hs1 : w.heap.size ≤ w1.heap.size := hm.size; have hs2 : w.heap.size ≤ (w1.alloc (.cells #[.int .u8 (48 + (d : Int))] 5)).heap.size := (hm.alloc (.cells #[.int .u8 (48 + (d : Int))] 5)).size; have HMF : Hid (Mod (fun _ => False) w (w1.alloc (.cells #[.int .u8 (48 + (d : Int))] 5))) := ((Mod.refl (fun _ => False) w).drew.trans hm).alloc _; clear hm) | (go_at_call 33; (with_reducible refine (IH.out ((w.alloc (.cells #[.int .u8 (48 + (d : Int))] 5)).drew)).mono ?_); rintro e w1 ⟨rfl, hm⟩; have hcC := HC.out w1 w.heap.size (hm.blk (blk_new w _) (fun h => h)); have hs1 : w.heap.size ≤ w1.heap.size := Nat.le_trans hs0 hm.size; have HMF : Hid (Mod (fun _ => False) w w1) := ((Mod.refl (fun _ => False) w).alloc _).drew.trans hm; clear hm))
      all_goals go_wp2
      all_goals go_ret
      all_goals exact ⟨by rw [HE.out]; rfl, HMF.out⟩
/-- What is written behind k of them. -/
def preL (l : List Nat) (k : Nat) : List UInt8 := 123 :: joinL (l.take k)
def preS (l : List Nat) (k : Nat) : ByteArray := ⟨(preL l k).toArray⟩
theorem join_snoc (x : List UInt8) (r : List (List UInt8)) (y : List UInt8) : Lib.join (x :: r ++ [y]) [44] = Lib.join (x :: r) [44] ++ 44 :: y := by
  rw [List.cons_append, Lib.join_cons, Lib.join_cons]
  unfold Lib.joinTail
  simp
theorem pre_zero (l : List Nat) : preS l 0 = ⟨#[123]⟩ := rfl
theorem pre_one (l : List Nat) (h : 0 < l.length) : preS l 1 = preS l 0 ++ itoaB (l.getD 0 0) := by
  cases l with
  | nil => simp at h
  | cons x r =>
    unfold preS itoaB
    rw [str_app]
    unfold preL joinL
    show (⟨(123 :: Lib.join [Lib.decDigits x] [44]).toArray⟩ : ByteArray) = _
    rw [Lib.join_one]
    rfl
theorem pre_next (l : List Nat) (k : Nat) (h : k < l.length) (h0 : 0 < k) : preS l (k + 1) = (preS l k ++ ⟨#[44]⟩) ++ itoaB (l.getD k 0) := by
  have e : preL l (k + 1) = preL l k ++ (44 :: Lib.decDigits (l.getD k 0)) := by
    unfold preL joinL
    rw [take_snocN h, List.map_append]
    cases hl : l.take k with
    | nil =>
      have := congrArg List.length hl
      rw [List.length_take, List.length_nil] at this
      omega
    | cons x r =>
      show 123 :: Lib.join (Lib.decDigits x :: r.map Lib.decDigits ++ [Lib.decDigits (l.getD k 0)]) [44] = _
      rw [join_snoc]
      rfl
  unfold preS itoaB
  rw [e]
  have h1 := str_app (preL l k) [44]
  have h2 := str_app (preL l k ++ [44]) (Lib.decDigits (l.getD k 0))
  refine Eq.trans ?_ (h2.symm.trans (congrArg (· ++ (⟨(Lib.decDigits (l.getD k 0)).toArray⟩ : ByteArray)) h1.symm))
  simp
theorem pre_all (l : List Nat) : preS l l.length ++ ⟨#[125]⟩ = ⟨(123 :: (joinL l ++ [125])).toArray⟩ := by
  have h := str_app (preL l l.length) [125]
  unfold preS
  refine h.trans ?_
  unfold preL
  rw [List.take_length]
  rfl
theorem pre_size (l : List Nat) (k : Nat) (h : ∀ x ∈ l, x < 100) (hl : l.length ≤ 64) : (preS l k).size ≤ 300 := by
  have := joinL_len (l.take k) (fun x hx => h x (List.mem_of_mem_take hx))
  rw [List.length_take] at this
  show (joinL (l.take k)).length + 1 ≤ 300
  omega
set_option maxRecDepth 100000 in
set_option maxHeartbeats 4000000 in
theorem rshow_any (s : Nat) (w : World) (hs : s < 18446744073709551616) : Calls Tryd.prog 24 #[.int .u64 s] w (Shown w s) := by
  have HL := Lib.hid (rlist_any s w hs)
  have hbs := bits_small s
  have hl64 := bitsOf_len s
  have HF : Hid (Shown w s = fun e w' => e = .returned (.string (preS (bitsOf s) (bitsOf s).length ++ ⟨#[125]⟩)) ∧ Mod (fun _ => False) w w') := by
    show Shown w s = _
    unfold Shown showS showL
    rw [pre_all]
  have HSZ : Hid (∀ k, (preS (bitsOf s) k).size ≤ 300) := fun k => pre_size _ k hbs hl64
  rw [HF.out]
  generalize bitsOf s = l at *
  have HBS := Lib.hid hbs
  clear hbs hs
  go_enter Tryd.func24, Tryd.ntmps24
  go_wp2_with fail
  refine HL.out.mono ?_
  rintro e w1 ⟨v1, rfl, hv, hm⟩
  have HV := Lib.hid hv
  have HM := Lib.hid hm
  obtain ⟨A, c, rfl⟩ := RowOf.form hv
  clear hv hm HL
  go_wp2
  go_loopw [3, 5] (fun t i wr => ∃ (k : Nat) (T : ByteArray), k ≤ l.length ∧ i = .int .i64 k ∧ t = .string T ∧ Hid (T = preS l k) ∧ Hid (Mod (fun _ => False) w1 wr)) (fun _ i _ => l.length - (intOf i).toNat)
  case atStart => exact ⟨0, _, Nat.zero_le _, rfl, rfl, rfl, Mod.refl _ _⟩
  case round =>
    obtain ⟨k, T, hk, rfl, rfl, HT, HW⟩ := hrel
    have hsz : T.size ≤ 300 := by rw [HT.out]; exact HSZ.out k
    by_cases hlt : k < l.length
    · have hV : Nats wr (.slice A l.length c) l := RowOf.mod HV.out HW.out (fun _ _ x => x)
      obtain ⟨b, o, rfl, _, hc⟩ := Nats.cell hV hlt
      have hi : (k : Int) < l.length := by omega
      have hi0 : (0 : Int) ≤ (k : Int) := by omega
      have tk : decide (k < l.length) = true := decide_eq_true hlt
      have hx : l.getD k 0 < 100 := by
        rw [List.getD_eq_getElem?_getD, List.getElem?_eq_getElem hlt]
        exact HBS.out _ (List.getElem_mem hlt)
      have HN1 : Hid (k = 0 → preS l (k + 1) = T ++ itoaB (l.getD k 0)) := fun h0 => by subst h0; rw [HT.out]; exact pre_one l (by omega)
      have HN2 : Hid (0 < k → preS l (k + 1) = (T ++ ⟨#[44]⟩) ++ itoaB (l.getD k 0)) := fun h0 => by rw [HT.out]; exact pre_next l k hlt h0
      generalize l.getD k 0 = x at *
      have hwx : IntKind.u64.wrap (x : Int) = (x : Int) := by rw [IntKind.wrap_u64]; omega
      have HD : Hid (∀ W, Calls Tryd.prog 33 #[.int .u64 x] W fun e w' => e = .returned (.string (itoaB x)) ∧ Mod (fun _ => False) W w') := fun W => rdigits_any x W (by omega)
      have hq : (itoaB x).size ≤ 20 := dec_size 19 x (by omega)
      generalize itoaB x = q at *
      by_cases h0 : k = 0
      · subst h0
        have HE := HN1.out rfl
        rw [Nat.add_zero] at hc
        have hz2 : T.size + q.size ≤ 9223372036854775807 := by omega
        clear HN1 HN2 hV hk
        have HE := Lib.hid HE
        go_wp2_with fail
        refine (HD.out _).mono ?_
        rintro e w2 ⟨rfl, hm⟩
        have HW2 : Hid (Mod (fun _ => False) w1 w2) := HW.out.trans hm
        clear hm
        go_wp2
        go_roundw
        case rel => exact ⟨0 + 1, _, by omega, by go_num, rfl, HE.out.symm, HW2⟩
        case measure => simp [intOf]; omega
      · have HE := HN2.out (by omega)
        have h1 : (0 : Int) < (k : Int) := by omega
        have tk0 : decide (0 < k) = true := decide_eq_true (by omega)
        have hz1 : T.size + (⟨#[44]⟩ : ByteArray).size ≤ 9223372036854775807 := by show T.size + 1 ≤ _; omega
        have hz2 : (T ++ ⟨#[44]⟩).size + q.size ≤ 9223372036854775807 := by
          rw [ByteArray.size_append]
          show T.size + 1 + q.size ≤ _
          omega
        clear HN1 HN2 hV hk
        have HE := Lib.hid HE
        go_wp2_with fail
        refine (HD.out _).mono ?_
        rintro e w2 ⟨rfl, hm⟩
        have HW2 : Hid (Mod (fun _ => False) w1 w2) := HW.out.trans hm
        clear hm
        go_wp2
        go_roundw
        case rel => exact ⟨k + 1, _, by omega, by go_num, rfl, HE.out.symm, HW2⟩
        case measure => simp [intOf]; omega
    · obtain rfl : k = l.length := by omega
      have ti : decide (l.length < l.length) = false := decide_eq_false (by omega)
      have hz1 : T.size + (⟨#[125]⟩ : ByteArray).size ≤ 9223372036854775807 := by show T.size + 1 ≤ _; omega
      have HMF : Hid (Mod (fun _ => False) w wr) := HM.out.trans HW.out
      go_wp2
      go_ret
      exact ⟨by rw [← HT.out]; rfl, HMF.out⟩
end Go.Proofs.YtkmfbddiebigfaaDoor
