/-
  place.Good, and what it calls.
-/
import Derived.Test.YtpdpnhikcmpcdaaPlA
import Derived.Test.YtpdpnhikcmpcdaaOpen
namespace Go.Proofs.Ytpdpnhikcmpcdaa
open Go.RowKit Go.Shoal

def inB (n l m : Int) : Bool := decide (l ≤ n) && decide (n ≤ m)
theorem inB_true {n l m : Int} (h : inB n l m = true) : l ≤ n ∧ n ≤ m := by simpa [inB] using h
theorem inB_iff (n l m : Int) : inB n l m = true ↔ l ≤ n ∧ n ≤ m := by simp [inB]
set_option maxHeartbeats 400000 in
theorem in_any (n l m : Int) (w : World) : Calls Try.prog 31 #[.int .i64 n, .int .i64 l, .int .i64 m] w fun e w' => e = .returned (.bool (inB n l m)) ∧ w = w' := by
  by_cases h1 : l ≤ n
  · by_cases h2 : n ≤ m
    · have HE : Hid (inB n l m = true) := by show _ = _; simp [inB, h1, h2]
      go_enter Try.func31, Try.ntmps31
      go_wp2
      go_ret
      exact ⟨by rw [HE.out]; rfl, rfl⟩
    · have HE : Hid (inB n l m = false) := by show _ = _; simp [inB, h1, h2]
      go_enter Try.func31, Try.ntmps31
      go_wp2
      go_ret
      exact ⟨by rw [HE.out]; rfl, rfl⟩
  · have HE : Hid (inB n l m = false) := by show _ = _; simp [inB, h1]
    go_enter Try.func31, Try.ntmps31
    go_wp2
    go_ret
    exact ⟨by rw [HE.out]; rfl, rfl⟩

/-- Is s some of the first n? -/
def someB (s : Nat) (n : Int) : Bool := decide (s ≠ 0) && decide (lessOf s (allOf n) = 0)
set_option maxHeartbeats 400000 in
theorem some_any (s : Nat) (n : Int) (w : World) (hs : s < 18446744073709551616) : Calls Try.prog 34 #[.int .u64 s, .int .i64 n] w fun e w' => e = .returned (.bool (someB s n)) ∧ w = w' := by
  have HA := Lib.hid (all_any n)
  have HW := Lib.hid (fun w => within_any s (allOf n) w hs (allOf_lt n))
  by_cases h : s = 0
  · subst h
    have HE : Hid (someB 0 n = false) := by show _ = _; simp [someB]
    go_enter Try.func34, Try.ntmps34
    go_wp2
    go_ret
    exact ⟨by rw [HE.out]; rfl, rfl⟩
  · have HE : Hid (someB s n = decide (lessOf s (allOf n) = 0)) := by show _ = _; simp [someB, h]
    have h1 : ((s : Int) != 0) = true := by simp; omega
    have h2 : ((s : Int) == 0) = false := by simp; omega
    clear h
    generalize decide (lessOf s (allOf n) = 0) = r at HE HW
    generalize allOf n = a at HA HW
    go_enter Try.func34, Try.ntmps34
    go_wp2_with fail
    refine (HA.out w).mono ?_
    rintro e w1 ⟨rfl, rfl⟩
    go_wp2_with fail
    refine (HW.out w).mono ?_
    rintro e w1 ⟨rfl, rfl⟩
    go_wp2
    go_ret
    exact ⟨by rw [HE.out]; rfl, rfl⟩

/-- The closure of Good: is s not some of the first n? -/
theorem not_some (s : Nat) (n : Int) (g : Nat) (w : World) (hs : s < 18446744073709551616) (hc : w.cell? ⟨g, 0, none⟩ = some (.int .i64 n)) :
    Calls Try.prog 33 #[.int .u64 s, .pointer (some ⟨g, 0, none⟩)] w fun e w' => e = .returned (.bool (!someB s n)) ∧ w = w' := by
  have HS := Lib.hid (some_any s n w hs)
  go_enter Try.func33, Try.ntmps33
  go_wp2_with fail
  refine HS.out.mono ?_
  rintro e w1 ⟨rfl, rfl⟩
  go_wp2
  go_ret
  exact ⟨rfl, rfl⟩

/-- The sets of a slice value. -/
def SetsIn (w : World) (v : Value) (l : List Nat) : Prop :=
  ∃ A c, v = .slice A l.length c ∧ l.length ≤ maxLen ∧ (l = [] ∨ ∃ b o, A = some ⟨b, o, none⟩ ∧ b < w.heap.size ∧ ∀ i, i < l.length → w.cell? ⟨b, o + i, none⟩ = some (.int .u64 ((l.getD i 0 : Nat) : Int))) ∧ ∀ s ∈ l, s < 18446744073709551616
theorem SetsIn.mod {S : Nat → Prop} {w w' : World} {v : Value} {l : List Nat} (h : SetsIn w v l) (hm : Mod S w w') (hs : ∀ k, k < w.heap.size → ¬ S k) : SetsIn w' v l := by
  obtain ⟨A, c, rfl, hl, hx, hw⟩ := h
  refine ⟨A, c, rfl, hl, ?_, hw⟩
  rcases hx with hx | ⟨b, o, rfl, hb, hc⟩
  · exact .inl hx
  · refine .inr ⟨b, o, rfl, Nat.lt_of_lt_of_le hb hm.size, fun i hi => ?_⟩
    rw [World.cell?_of_block (hm.block _ hb (hs _ hb))]
    exact hc i hi
theorem SetsIn.of_nums {w : World} {v : Value} {zs : List Int} (h : NumsIn .u64 w v zs) : SetsIn w v (zs.map Int.toNat) := by
  obtain ⟨A, c, rfl, hl, hx, hw⟩ := h
  have hz : ∀ z ∈ zs, 0 ≤ z ∧ z ≤ 18446744073709551615 := fun z hz => wf_u64 (hw z hz)
  refine ⟨A, c, by rw [List.length_map], by rw [List.length_map]; exact hl, ?_, fun s hs => ?_⟩
  · rcases hx with rfl | ⟨b, o, rfl, hb, hc⟩
    · exact .inl rfl
    · refine .inr ⟨b, o, rfl, hb, fun i hi => ?_⟩
      rw [List.length_map] at hi
      rw [hc i hi]
      have hm := hz zs[i] (List.getElem_mem hi)
      simp only [List.getD_eq_getElem?_getD, List.getElem?_map, List.getElem?_eq_getElem hi, Option.getD_some, Option.map_some]
      congr 2
      omega
  · obtain ⟨z, hz1, rfl⟩ := List.mem_map.1 hs
    have := hz z hz1
    omega

/-- What an index tells. -/
def IndexSays (l : List Nat) (n : Int) (w : World) (e : Ending) (w' : World) : Prop := ∃ r : Int, e = .returned (.int .i64 r) ∧ (decide (0 ≤ r) = l.any fun s => !someB s n) ∧ w = w'
set_option maxHeartbeats 1000000 in
theorem index_any (v : Value) (l : List Nat) (n : Int) (g : Nat) (w : World) (h : SetsIn w v l) (hc : w.cell? ⟨g, 0, none⟩ = some (.int .i64 n)) :
    Calls Try.prog 42 #[v, .func (.func 33) #[] #[.pointer (some ⟨g, 0, none⟩)]] w (IndexSays l n w) := by
  obtain ⟨A, c, rfl, hl, hx, hw⟩ := h
  unfold maxLen at hl
  have H := Lib.hid hx
  have HW := Lib.hid hw
  have HC := Lib.hid hc
  clear hx hw hc
  go_enter Try.func42, Try.ntmps42
  go_wp2
  go_loop [8] (fun i => ∃ k : Nat, k ≤ l.length ∧ i = .int .i64 k ∧ Hid ((l.take k).any (fun s => !someB s n) = false)) (fun i => l.length - (intOf i).toNat)
  case atStart => exact ⟨0, Nat.zero_le _, rfl, rfl⟩
  case round =>
    obtain ⟨k, hk, rfl, hA⟩ := hrel
    by_cases hlt : k < l.length
    · obtain ⟨b, o, rfl, hb, hcs⟩ := H.out.resolve_left (fun e => by rw [e] at hlt; simp at hlt)
      have hck := hcs k hlt
      clear hcs
      have hg : l.getD k 0 = l[k] := by rw [List.getD_eq_getElem?_getD, List.getElem?_eq_getElem hlt]; rfl
      have HT : Hid (l.take (k + 1) = l.take k ++ [l.getD k 0]) := by
        show _ = _
        rw [List.take_succ_eq_append_getElem hlt, hg]
      have HM : Hid (l.getD k 0 ∈ l) := by rw [hg]; exact List.getElem_mem hlt
      have hi : (k : Int) < l.length := by omega
      clear hg
      generalize l.getD k 0 = s at hck HT HM
      have HN := Lib.hid (not_some s n g w (HW.out s HM.out) HC.out)
      go_wp2_with fail
      refine HN.out.mono ?_
      rintro e w1 ⟨rfl, rfl⟩
      cases hs : someB s n
      · have HY : Hid (l.any (fun s => !someB s n) = true) := List.any_eq_true.2 ⟨s, HM.out, by rw [hs]; rfl⟩
        clear hs
        go_wp2
        go_ret
        exact ⟨_, rfl, by rw [HY.out]; exact decide_eq_true (by omega), rfl⟩
      · have HY : Hid ((l.take (k + 1)).any (fun s => !someB s n) = false) := by show _ = _; rw [HT.out, List.any_append, hA.out]; simp [hs]
        clear hs
        go_wp2
        go_round
        case rel => exact ⟨k + 1, by omega, by go_num, HY⟩
        case measure => simp [intOf]; omega
    · have hke : Hid (k = l.length) := by show _ = _; omega
      go_wp2
      go_ret
      refine ⟨_, rfl, ?_, rfl⟩
      have h := hA.out
      rw [hke.out, List.take_length] at h
      rw [h]
      rfl
theorem contains_any (v : Value) (l : List Nat) (n : Int) (g : Nat) (w : World) (h : SetsIn w v l) (hc : w.cell? ⟨g, 0, none⟩ = some (.int .i64 n)) :
    Calls Try.prog 32 #[v, .func (.func 33) #[] #[.pointer (some ⟨g, 0, none⟩)]] w fun e w' => e = .returned (.bool (l.any fun s => !someB s n)) ∧ w = w' := by
  have HI := Lib.hid (index_any v l n g w h hc)
  clear h hc
  go_enter Try.func32, Try.ntmps32
  go_wp2_with fail
  refine HI.out.mono ?_
  rintro e w1 ⟨r, rfl, hr, rfl⟩
  have HR := Lib.hid hr
  clear hr
  go_wp2
  go_ret
  exact ⟨by rw [← HR.out]; rfl, rfl⟩

/-- A configuration, as numbers. -/
structure Cf where
  n : Int
  vars : List Nat
  window : Int
  queue : Int
  first : Int
  most : Int
  body : Int
  engine : Int
/-- Its cells, the slice's value being v. -/
def Cf.cells (c : Cf) (v : Value) : Array Value := #[.int .i64 c.n, v, .int .i64 c.window, .int .i64 c.queue, .int .i64 c.first, .int .i64 c.most, .int .i64 c.body, .int .i64 c.engine]
def Cf.val (c : Cf) (v : Value) : Value := .agg (c.cells v)
/-- May it be? -/
def Cf.good (c : Cf) : Bool := inB c.n 1 16 && decide (c.vars.length ≤ 16) && !(c.vars.any fun s => !someB s c.n) && (inB c.window 1 16 && inB c.queue 2 32 && inB c.first 1 c.most && decide (c.most ≤ 1000)) && inB c.body 0 256 && inB c.engine 1 2

set_option maxRecDepth 100000 in
set_option maxHeartbeats 4000000 in
theorem good_any (c : Cf) (v : Value) (w : World) (h : SetsIn w v c.vars) : Calls Try.prog 19 #[c.val v] w fun e w' => e = .returned (.bool c.good) ∧ Mod (fun _ => False) w w' := by
  obtain ⟨n, l, wi, q, f, m, b, en⟩ := c
  have HV := h
  obtain ⟨A, cp, rfl, hl, _, _⟩ := h
  unfold maxLen at hl
  unfold Cf.val Cf.cells
  show Calls Try.prog 19 #[.agg #[.int .i64 n, .slice A l.length cp, .int .i64 wi, .int .i64 q, .int .i64 f, .int .i64 m, .int .i64 b, .int .i64 en]] w fun e w' => e = .returned (.bool (Cf.good ⟨n, l, wi, q, f, m, b, en⟩)) ∧ Mod (fun _ => False) w w'
  have HB : (w.alloc (.cells #[.int .i64 n, .slice A l.length cp, .int .i64 wi, .int .i64 q, .int .i64 f, .int .i64 m, .int .i64 b, .int .i64 en] 30)).heap[w.heap.size]? = some (.cells #[.int .i64 n, .slice A l.length cp, .int .i64 wi, .int .i64 q, .int .i64 f, .int .i64 m, .int .i64 b, .int .i64 en] 30 (0, 0)) := blk_new _ _
  have HC := Lib.hid (contains_any (.slice A l.length cp) l n w.heap.size _ (HV.mod (S := fun _ => False) ((Mod.refl _ _).alloc _) (fun _ _ x => x)) ((blk_cell HB 0).trans rfl))
  obtain ⟨r, hr⟩ : ∃ r, r = l.any fun s => !someB s n := ⟨_, rfl⟩
  rw [← hr] at HC
  have HR : Hid ((l.any fun s => !someB s n) = r) := hr.symm
  have hmf : ∀ (fn : Fn) (first cap : Array Value) (w : World), (Instr.makeFunc fn first cap).run Try.prog w = .ok (.func fn first cap) w := fun _ _ _ _ => rfl
  clear HV HB hr
  cases h1 : inB n 1 16
  · have hE : Hid (Cf.good ⟨n, l, wi, q, f, m, b, en⟩ = false) := by show _ = _; simp [Cf.good, HR.out, h1]
    go_enter Try.func19, Try.ntmps19
    go_wp2_with (first | (go_at_call 31; refine (in_any _ _ _ _).mono ?_; rintro e w1 ⟨rfl, rfl⟩) | (go_at_call 32; refine HC.out.mono ?_; rintro e w1 ⟨rfl, rfl⟩))
    go_ret
    exact ⟨by rw [hE.out]; rfl, (Mod.refl _ _).alloc _⟩
  · by_cases h2 : l.length ≤ 16
    · cases r
      · cases h4 : inB wi 1 16
        · have hE : Hid (Cf.good ⟨n, l, wi, q, f, m, b, en⟩ = false) := by show _ = _; simp [Cf.good, HR.out, h1, h4]
          go_enter Try.func19, Try.ntmps19
          go_wp2_with (first | (go_at_call 31; refine (in_any _ _ _ _).mono ?_; rintro e w1 ⟨rfl, rfl⟩) | (go_at_call 32; refine HC.out.mono ?_; rintro e w1 ⟨rfl, rfl⟩))
          go_ret
          exact ⟨by rw [hE.out]; rfl, (Mod.refl _ _).alloc _⟩
        · cases h5 : inB q 2 32
          · have hE : Hid (Cf.good ⟨n, l, wi, q, f, m, b, en⟩ = false) := by show _ = _; simp [Cf.good, HR.out, h1, h4, h5]
            go_enter Try.func19, Try.ntmps19
            go_wp2_with (first | (go_at_call 31; refine (in_any _ _ _ _).mono ?_; rintro e w1 ⟨rfl, rfl⟩) | (go_at_call 32; refine HC.out.mono ?_; rintro e w1 ⟨rfl, rfl⟩))
            go_ret
            exact ⟨by rw [hE.out]; rfl, (Mod.refl _ _).alloc _⟩
          · cases h6 : inB f 1 m
            · have hE : Hid (Cf.good ⟨n, l, wi, q, f, m, b, en⟩ = false) := by show _ = _; simp [Cf.good, HR.out, h1, h4, h5, h6]
              go_enter Try.func19, Try.ntmps19
              go_wp2_with (first | (go_at_call 31; refine (in_any _ _ _ _).mono ?_; rintro e w1 ⟨rfl, rfl⟩) | (go_at_call 32; refine HC.out.mono ?_; rintro e w1 ⟨rfl, rfl⟩))
              go_ret
              exact ⟨by rw [hE.out]; rfl, (Mod.refl _ _).alloc _⟩
            · by_cases h7 : m ≤ 1000
              · cases h8 : inB b 0 256
                · have hE : Hid (Cf.good ⟨n, l, wi, q, f, m, b, en⟩ = false) := by show _ = _; simp [Cf.good, HR.out, h1, h4, h5, h6, h8]
                  go_enter Try.func19, Try.ntmps19
                  go_wp2_with (first | (go_at_call 31; refine (in_any _ _ _ _).mono ?_; rintro e w1 ⟨rfl, rfl⟩) | (go_at_call 32; refine HC.out.mono ?_; rintro e w1 ⟨rfl, rfl⟩))
                  go_ret
                  exact ⟨by rw [hE.out]; rfl, (Mod.refl _ _).alloc _⟩
                · have hE : Hid (Cf.good ⟨n, l, wi, q, f, m, b, en⟩ = inB en 1 2) := by show _ = _; simp [Cf.good, HR.out, h1, h2, h4, h5, h6, h7, h8]
                  go_enter Try.func19, Try.ntmps19
                  go_wp2_with (first | (go_at_call 31; refine (in_any _ _ _ _).mono ?_; rintro e w1 ⟨rfl, rfl⟩) | (go_at_call 32; refine HC.out.mono ?_; rintro e w1 ⟨rfl, rfl⟩))
                  go_ret
                  exact ⟨by rw [hE.out]; rfl, (Mod.refl _ _).alloc _⟩
              · have hE : Hid (Cf.good ⟨n, l, wi, q, f, m, b, en⟩ = false) := by show _ = _; simp [Cf.good, HR.out, h1, h4, h5, h6, h7]
                go_enter Try.func19, Try.ntmps19
                go_wp2_with (first | (go_at_call 31; refine (in_any _ _ _ _).mono ?_; rintro e w1 ⟨rfl, rfl⟩) | (go_at_call 32; refine HC.out.mono ?_; rintro e w1 ⟨rfl, rfl⟩))
                go_ret
                exact ⟨by rw [hE.out]; rfl, (Mod.refl _ _).alloc _⟩
      · have hE : Hid (Cf.good ⟨n, l, wi, q, f, m, b, en⟩ = false) := by show _ = _; simp [Cf.good, HR.out, h1]
        go_enter Try.func19, Try.ntmps19
        go_wp2_with (first | (go_at_call 31; refine (in_any _ _ _ _).mono ?_; rintro e w1 ⟨rfl, rfl⟩) | (go_at_call 32; refine HC.out.mono ?_; rintro e w1 ⟨rfl, rfl⟩))
        go_ret
        exact ⟨by rw [hE.out]; rfl, (Mod.refl _ _).alloc _⟩
    · have hE : Hid (Cf.good ⟨n, l, wi, q, f, m, b, en⟩ = false) := by show _ = _; simp [Cf.good, HR.out, h1, h2]
      go_enter Try.func19, Try.ntmps19
      go_wp2_with (first | (go_at_call 31; refine (in_any _ _ _ _).mono ?_; rintro e w1 ⟨rfl, rfl⟩) | (go_at_call 32; refine HC.out.mono ?_; rintro e w1 ⟨rfl, rfl⟩))
      go_ret
      exact ⟨by rw [hE.out]; rfl, (Mod.refl _ _).alloc _⟩
end Go.Proofs.Ytpdpnhikcmpcdaa
