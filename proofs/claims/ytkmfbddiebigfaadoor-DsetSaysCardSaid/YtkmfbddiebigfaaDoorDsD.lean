/-
  dset.Show.
-/
import Derived.Test.YtkmfbddiebigfaaDoorDsC
import Derived.Test.YtkmfbddiebigfaaDoorShelf
import Derived.Laws.Concat
namespace Go.Proofs.YtkmfbddiebigfaaDoor
open Go.RowKit Go.Shoal

theorem Tryd.infoStr : (Tryd.prog.info? 9).map (fun i => (i.zero, i.size, i.bytes)) = some (some (.string ByteArray.empty), 1, 16) := by kernel_rfl
def strV (l : List ByteArray) : List Value := l.map Value.string
theorem strV_one (l : List ByteArray) : ∀ u ∈ strV l, u.oneCell' = true := by
  intro u hu
  obtain ⟨k, _, rfl⟩ := List.mem_map.1 hu
  rfl
/-- A slice of strings. -/
def StrsAt (w : World) (v : Value) (l : List ByteArray) : Prop := RowOf w 9 1 v l.length (strV l)
def SRel (w : World) (l : List ByteArray) (v : Value) (wr : World) : Prop := StrsAt wr v l ∧ Mod (fun _ => False) w wr ∧ ∀ q, v.ownBlock = some q → w.heap.size ≤ q
theorem SRel.put {w wr w' : World} {l : List ByteArray} {v v' : Value} {x : ByteArray} (h : SRel w l v wr) (hr : RowOf w' 9 1 v' (l.length + 1) (strV l ++ [.string x])) (hg : (wr.alloc (.cells #[.string x] 9)).grownBy w' v.ownBlock)
    (ho : v'.ownBlock = v.ownBlock ∨ v'.ownBlock = some (wr.heap.size + 1)) : SRel w (l ++ [x]) v' w' := by
  refine ⟨?_, (h.2.1.alloc _).grown hg (fun k hk => h.2.2 k hk), fun q hq => ?_⟩
  · have e1 : (l ++ [x]).length = l.length + 1 := by simp
    have e2 : strV (l ++ [x]) = strV l ++ [.string x] := by simp [strV]
    unfold StrsAt
    rw [e1, e2]
    exact hr
  · have := h.2.1.size
    rcases ho with ho | ho
    · exact h.2.2 q (ho ▸ hq)
    · rw [ho] at hq
      have := Option.some.inj hq
      omega
theorem Nats.cell {w : World} {A : Option Addr} {c n : Nat} {l : List Nat} (h : Nats w (.slice A n c) l) {k : Nat} (hk : k < l.length) : ∃ b o, A = some ⟨b, o, none⟩ ∧ n = l.length ∧ w.cell? ⟨b, o + k, none⟩ = some (.int .i64 ((l.getD k 0 : Nat) : Int)) := by
  unfold Nats at h
  obtain ⟨b, o, cap, cur, he, hcur, _, hcells⟩ := RowOf.at h (by omega)
  cases he
  refine ⟨b, o, rfl, rfl, ?_⟩
  rw [blk_cell hcur, hcells k (by omega)]
  unfold natV
  rw [List.getElem?_map, List.getD_eq_getElem?_getD, List.getElem?_eq_getElem hk]
  rfl
def itoaB (k : Nat) : ByteArray := ⟨(Lib.decDigits k).toArray⟩
def joinL (l : List Nat) : List UInt8 := Lib.join (l.map Lib.decDigits) [44]
def showL (s : Nat) : List UInt8 := 123 :: (joinL (bitsOf s) ++ [125])
def showS (s : Nat) : ByteArray := ⟨(showL s).toArray⟩
theorem dec_len {k : Nat} (h : k < 100) : (Lib.decDigits k).length ≤ 2 := by
  by_cases h1 : k < 10
  · rw [Lib.decDigits_one h1]; show 1 ≤ 2; decide
  · rw [Lib.decDigits_two h1 h]; show 2 ≤ 2; decide
theorem joinTail_len : ∀ (l : List Nat), (∀ k ∈ l, k < 100) → (Lib.joinTail [44] (l.map Lib.decDigits)).length ≤ 3 * l.length
  | [], _ => Nat.zero_le _
  | k :: r, h => by
    have ih := joinTail_len r (fun x hx => h x (List.mem_cons_of_mem _ hx))
    have hk := dec_len (h k (List.mem_cons_self ..))
    unfold Lib.joinTail at ih ⊢
    rw [List.map_cons, List.map_cons, List.flatten_cons, List.length_append, List.length_append, List.length_cons]
    simp only [List.length_cons, List.length_nil]
    omega
theorem joinL_len (l : List Nat) (h : ∀ k ∈ l, k < 100) : (joinL l).length ≤ 3 * l.length := by
  unfold joinL
  cases l with
  | nil => exact Nat.zero_le _
  | cons k r =>
    have hk := dec_len (h k (List.mem_cons_self ..))
    have hr := joinTail_len r (fun x hx => h x (List.mem_cons_of_mem _ hx))
    rw [List.map_cons, Lib.join_cons, List.length_append, List.length_cons]
    omega
theorem bits_small (s : Nat) : ∀ k ∈ bitsOf s, k < 100 := fun k hk => by
  have := ((bitsOf_mem s k).1 hk).1
  omega
theorem str_app (a b : List UInt8) : (⟨a.toArray⟩ : ByteArray) ++ ⟨b.toArray⟩ = ⟨(a ++ b).toArray⟩ := by
  rw [ByteArray.ext_iff]
  rw [ByteArray.data_append]
  simp
theorem take_snocN {L : List Nat} {k : Nat} (h : k < L.length) : L.take (k + 1) = L.take k ++ [L.getD k 0] := by
  rw [List.take_succ_eq_append_getElem h, List.getD_eq_getElem?_getD, List.getElem?_eq_getElem h]; rfl
def Shown (w : World) (s : Nat) (e : Ending) (w' : World) : Prop := e = .returned (.string (showS s)) ∧ Mod (fun _ => False) w w'
set_option maxHeartbeats 2000000 in
theorem show_any (s : Nat) (w : World) (hs : s < 18446744073709551616) (hT : Tab w) : Calls Tryd.prog 23 #[.int .u64 s] w (Shown w s) := by
  obtain ⟨i0, hii, hz0, hz1, hz2⟩ := info_parts Tryd.infoStr
  have HL := Lib.hid (list_any s w hs hT)
  have hbs := bits_small s
  have hbl := bitsOf_len s
  have HJ : Hid (Shown w s = fun e w' => e = .returned (.string (⟨#[123]⟩ ++ ⟨(joinL (bitsOf s)).toArray⟩ ++ ⟨#[125]⟩)) ∧ Mod (fun _ => False) w w') := by
    show Shown w s = _
    unfold Shown showS showL
    have e : ((⟨#[123]⟩ : ByteArray) ++ ⟨(joinL (bitsOf s)).toArray⟩) ++ ⟨#[125]⟩ = ⟨(123 :: (joinL (bitsOf s) ++ [125])).toArray⟩ := by
      have h1 := str_app [123] (joinL (bitsOf s))
      have h2 := str_app ([123] ++ joinL (bitsOf s)) [125]
      exact (congrArg (· ++ (⟨#[125]⟩ : ByteArray)) h1).trans (h2.trans (by simp))
    rw [e]
  rw [HJ.out]
  have hjl := joinL_len (bitsOf s) hbs
  generalize bitsOf s = l at *
  have HBS := Lib.hid hbs
  clear hT hbs
  go_enter Tryd.func23, Tryd.ntmps23
  go_wp2_with fail
  refine HL.out.mono ?_
  rintro e w1 ⟨v1, rfl, hv, hm⟩
  have HV := Lib.hid hv
  have HM := Lib.hid hm
  obtain ⟨A, c, rfl⟩ := RowOf.form hv
  have HR0 : Hid (SRel w1 [] (.slice none 0 0) w1) := ⟨RowOf.nil _ _ _, Mod.refl _ _, fun q hq => by cases hq⟩
  clear hv hm HL
  go_wp2
  go_loopw [3, 9] (fun acc i wr => ∃ (k : Nat) (v : Value), k ≤ l.length ∧ i = .int .i64 k ∧ v = acc ∧ Hid (SRel w1 ((l.take k).map itoaB) v wr)) (fun _ i _ => l.length - (intOf i).toNat)
  case atStart => exact ⟨0, _, Nat.zero_le _, rfl, rfl, HR0⟩
  case round =>
    obtain ⟨k, v, hk, rfl, rfl, hD⟩ := hrel
    have hkl : ((l.take k).map itoaB).length = k := by rw [List.length_map, List.length_take]; omega
    by_cases hlt : k < l.length
    · have hV : Nats wr (.slice A l.length c) l := RowOf.mod HV.out hD.out.2.1 (fun _ _ x => x)
      obtain ⟨b, o, rfl, _, hc⟩ := Nats.cell hV hlt
      have hi : (k : Int) < l.length := by omega
      have hi0 : (0 : Int) ≤ (k : Int) := by omega
      have tk : decide (k < l.length) = true := decide_eq_true hlt
      have HTS : Hid ((l.take (k + 1)).map itoaB = (l.take k).map itoaB ++ [itoaB (l.getD k 0)]) := by show _ = _; rw [take_snocN hlt, List.map_append]; rfl
      have hx : l.getD k 0 < 100 := by
        rw [List.getD_eq_getElem?_getD, List.getElem?_eq_getElem hlt]
        exact HBS.out _ (List.getElem_mem hlt)
      generalize l.getD k 0 = x at *
      have HIT := Lib.hid (Tryd.strconv_Itoa_small x hx wr)
      have HKL := Lib.hid hkl
      generalize (l.take k).map itoaB = done at *
      have HRW : Hid (RowOf (wr.alloc (.cells #[.string (itoaB x)] 9)) 9 1 v done.length (strV done)) := RowOf.alloc hD.out.1 _
      have HX : Hid (SrcOk (wr.alloc (.cells #[.string (itoaB x)] 9)) (.slice (some ⟨wr.heap.size, 0, none⟩) 1 1) 1 1 [.string (itoaB x)]) := SrcOk.block (blk_new wr _) rfl (fun j u hu => by rw [Nat.zero_add]; simpa using hu) (by simp [Value.oneCell'])
      have hbz := RowOf.lt hV rfl
      clear hV hkl hx
      go_wp2_with fail
      refine HIT.out.mono ?_
      rintro e w2 ⟨rfl, rfl⟩
      rw [show (⟨(Lib.decDigits x).toArray⟩ : ByteArray) = itoaB x from rfl]
      go_wp2_with (at_builtin; refine wpList_append_row (by rfl) _ _ 23 (by rfl) i0 (.string ByteArray.empty) 16 Tryd.underlying23 hii hz0 hz1 hz2 (by rfl) (by omega) (by rfl) HRW.out (strV_one _) _ 1 [.string (itoaB x)] (by rfl) HX.out (by have := HKL.out; unfold maxLen; omega) (by have := HKL.out; omega) ?_)
      intro v' w' hv1 hv2 hv3
      have HE : Hid (SRel w1 ((l.take (k + 1)).map itoaB) v' w') := by
        show SRel _ _ _ _
        rw [HTS.out]
        exact hD.out.put hv1 hv2 (by simpa using hv3)
      clear hv1 hv2 hv3 HRW HX hD hc
      go_wp2
      go_roundw
      case rel => exact ⟨k + 1, v', by omega, by go_num, rfl, HE⟩
      case measure => simp [intOf]; omega
    · obtain rfl : k = l.length := by omega
      have ti : decide (l.length < l.length) = false := decide_eq_false (by omega)
      rw [List.take_length] at hD
      have hR := hD.out
      have HMX : Hid (Mod (fun _ => False) w wr) := HM.out.trans hR.2.1
      have hz1' : (⟨#[123]⟩ : ByteArray).size + (⟨(joinL l).toArray⟩ : ByteArray).size ≤ 9223372036854775807 := by show 1 + (joinL l).length ≤ _; omega
      have hz2' : ((⟨#[123]⟩ : ByteArray) ++ ⟨(joinL l).toArray⟩).size + (⟨#[125]⟩ : ByteArray).size ≤ 9223372036854775807 := by
        rw [ByteArray.size_append]
        show 1 + (joinL l).length + 1 ≤ _
        omega
      have HJN : Hid (Calls Tryd.prog 32 #[v, .string ⟨#[44]⟩] wr fun e w' => e = .returned (.string ⟨(joinL l).toArray⟩) ∧ Below wr.heap.size wr w') := by
        have hrow := hR.1
        unfold StrsAt at hrow
        rw [List.length_map] at hrow
        cases l with
        | nil =>
          obtain ⟨A9, c9, rfl⟩ := RowOf.form hrow
          exact (Tryd.strings_Join_none A9 c9 ⟨#[44]⟩ wr).mono fun _ _ ⟨h1, h2⟩ => ⟨h1, h2 ▸ Below.refl _ _⟩
        | cons x0 r0 =>
          obtain ⟨b9, o9, cap9, cur9, rfl, hcur, hcap, hcells⟩ := RowOf.at hrow (by simp)
          have := Tryd.strings_Join b9 o9 cap9 ((x0 :: r0).map itoaB) ⟨#[44]⟩ wr (fun j y hy => by
            rw [blk_cell hcur, hcells j (by have := (List.getElem?_eq_some_iff.1 hy).1; simpa using this)]
            unfold strV
            rw [List.getElem?_map, hy]
            rfl) (blk_lt hcur) (by rw [List.length_map]; omega) (by rw [List.length_map]; exact hcap) (by
            rw [List.map_map]
            exact Nat.le_trans hjl (by omega))
          rw [List.length_map, List.map_map] at this
          exact this
      clear hR hD hlt hkl hjl
      go_wp2_with fail
      refine HJN.out.mono ?_
      rintro e w3 ⟨rfl, hb⟩
      have HM3 : Hid (Mod (fun _ => False) w w3) := HMX.out.trans (Mod.of_below hb)
      clear hb
      go_wp2
      go_ret
      exact ⟨rfl, HM3.out⟩
end Go.Proofs.YtkmfbddiebigfaaDoor
