/-
  Package past: what lies in memory; find, has, waits.
-/
import Derived.Test.YteicceikaecfcaaPastB
namespace Go.Proofs.Yteicceikaecfcaa
open Go.RowKit Go.Shoal Go.Maps

/-- How many of them somebody has sent. -/
def cnt (l : List Ms) (q : Nat) : Nat := (l.filter fun m => m.frm == q).length
/-- A message's name, by its place. -/
def nameAt (l : List Ms) (k : Nat) : Nat × Nat := ((l.getD k default).frm, (l.getD k default).num)
def nameCells (p : Nat × Nat) : List Value := [.int .i64 (p.1 : Int), .int .u64 (p.2 : Int)]
theorem nameCells_len (p : Nat × Nat) : (nameCells p).length = 2 := rfl
/-- What came ahead of what, as data, and where it lies. -/
structure Pa where
  n : Nat
  all : List Ms
  knows : Nat → Nat → Bool
  kb : Nat → Nat
  had : Nat → Nat
  got : Nat → List Nat
  tv : Nat → Value
  av : Value
  kB : Nat
  cB : Nat
  tB : Nat
  hB : Nat
def Pa.top (s : Pa) : Array Value := #[s.av, .slice (some ⟨s.kB, 0, none⟩) s.n s.n, .slice (some ⟨s.cB, 0, none⟩) s.n s.n, .slice (some ⟨s.tB, 0, none⟩) s.n s.n, .map (some s.hB)]
def Pa.krow (s : Pa) : Array Value := ((List.range s.n).map fun q => Value.map (some (s.kb q))).toArray
def Pa.crow (s : Pa) : Array Value := ((List.range s.n).map fun q => Value.int .u64 (cnt s.all q : Int)).toArray
def Pa.trow (s : Pa) : Array Value := ((List.range s.n).map fun q => s.tv q).toArray
def Pa.names (s : Pa) (q : Nat) : List (Nat × Nat) := (s.got q).map (nameAt s.all)
/-- What holds of the data. -/
structure Pa.Ok (s : Pa) : Prop where
  n1 : 1 ≤ s.n
  n16 : s.n ≤ 16
  len : s.all.length ≤ 1000
  frm : ∀ m ∈ s.all, m.frm < s.n
  to : ∀ m ∈ s.all, m.to < 18446744073709551616
  num : ∀ (k : Nat) (m : Ms), s.all[k]? = some m → m.num = cnt (s.all.take k) m.frm + 1
  alt : ∀ (k : Nat) (m : Ms) (j : Nat), s.all[k]? = some m → m.ahead j = true → j < k
  klt : ∀ q k, s.knows q k = true → k < s.all.length
  kcl : ∀ q (k : Nat) (m : Ms) (j : Nat), s.knows q k = true → s.all[k]? = some m → m.ahead j = true → s.knows q j = true
  acl : ∀ (i k : Nat) (m m' : Ms) (j : Nat), s.all[i]? = some m → m.ahead k = true → s.all[k]? = some m' → m'.ahead j = true → m.ahead j = true
  glt : ∀ q k, k ∈ s.got q → k < s.all.length
  gnd : ∀ q, (s.got q).Nodup
  gto : ∀ q (k : Nat) (m : Ms), k ∈ s.got q → s.all[k]? = some m → inSet m.to (q : Int) = true
  hlt : ∀ k, s.had k < 18446744073709551616
  hin : ∀ (k q : Nat), q < s.n → inSet (s.had k) (q : Int) = decide (k ∈ s.got q)
/-- Its blocks are apart. -/
structure Pa.Apart (s : Pa) : Prop where
  kk : ∀ q r, q < s.n → r < s.n → s.kb q = s.kb r → q = r
  aa : ∀ (i j : Nat) (m m' : Ms), s.all[i]? = some m → s.all[j]? = some m' → m.blk = m'.blk → i = j
  ka : ∀ q (m : Ms), q < s.n → m ∈ s.all → s.kb q ≠ m.blk
  hk : ∀ q, q < s.n → s.hB ≠ s.kb q
  ha : ∀ m ∈ s.all, s.hB ≠ m.blk
  tt : ∀ q r b, q < s.n → r < s.n → (s.tv q).ownBlock = some b → (s.tv r).ownBlock = some b → q = r
/-- It lies at block B. -/
structure PastAt (w : World) (B : Nat) (s : Pa) : Prop where
  top : w.heap[B]? = some (.cells s.top 69 (0, 0))
  all : RowOf w 73 4 s.av s.all.length (s.all.flatMap Ms.cells)
  krow : w.heap[s.kB]? = some (.cells s.krow 71 (0, 0))
  crow : w.heap[s.cB]? = some (.cells s.crow 30 (0, 0))
  trow : w.heap[s.tB]? = some (.cells s.trow 28 (0, 0))
  had : HadAt w s.hB s.had
  ks : ∀ q, q < s.n → SetsAt w (s.kb q) (s.knows q)
  sets : ∀ m ∈ s.all, SetsAt w m.blk m.ahead
  ts : ∀ q, q < s.n → RowOf w 34 2 (s.tv q) (s.got q).length ((s.names q).flatMap nameCells)
  ok : s.Ok
  apart : s.Apart
/-- Its blocks. -/
def Foot (B : Nat) (s : Pa) (b : Nat) : Prop := b = B ∨ s.av.ownBlock = some b ∨ b = s.kB ∨ b = s.cB ∨ b = s.tB ∨ b = s.hB ∨ (∃ q, q < s.n ∧ b = s.kb q) ∨ (∃ m ∈ s.all, b = m.blk) ∨ ∃ q, q < s.n ∧ (s.tv q).ownBlock = some b
theorem PastAt.mod {S : Nat → Prop} {w w' : World} {B : Nat} {s : Pa} (h : PastAt w B s) (hm : Mod S w w') (hs : ∀ b, Foot B s b → ¬ S b) : PastAt w' B s :=
  ⟨hm.blk h.top (hs _ (.inl rfl)), h.all.mod hm (fun b hb => hs b (.inr (.inl hb))), hm.blk h.krow (hs _ (.inr (.inr (.inl rfl)))), hm.blk h.crow (hs _ (.inr (.inr (.inr (.inl rfl))))),
    hm.blk h.trow (hs _ (.inr (.inr (.inr (.inr (.inl rfl)))))), h.had.mod hm (hs _ (.inr (.inr (.inr (.inr (.inr (.inl rfl))))))),
    fun q hq => (h.ks q hq).mod hm (hs _ (.inr (.inr (.inr (.inr (.inr (.inr (.inl ⟨q, hq, rfl⟩)))))))), fun m hm' => (h.sets m hm').mod hm (hs _ (.inr (.inr (.inr (.inr (.inr (.inr (.inr (.inl ⟨m, hm', rfl⟩))))))))),
    fun q hq => (h.ts q hq).mod hm (fun _ hb => hs _ (.inr (.inr (.inr (.inr (.inr (.inr (.inr (.inr ⟨q, hq, hb⟩))))))))), h.ok, h.apart⟩
theorem PastAt.same {w w' : World} {B : Nat} {s : Pa} (h : PastAt w B s) (hm : Mod (fun _ => False) w w') : PastAt w' B s := h.mod hm (fun _ _ x => x)
theorem PastAt.foot_lt {w : World} {B : Nat} {s : Pa} (h : PastAt w B s) {b : Nat} (hb : Foot B s b) : b < w.heap.size := by
  rcases hb with rfl | hb | rfl | rfl | rfl | rfl | ⟨q, hq, rfl⟩ | ⟨m, hm, rfl⟩ | ⟨q, hq, hb⟩
  · exact blk_lt h.top
  · exact h.all.lt hb
  · exact blk_lt h.krow
  · exact blk_lt h.crow
  · exact blk_lt h.trow
  · exact h.had.lt_size
  · exact (h.ks q hq).lt_size
  · exact (h.sets m hm).lt_size
  · exact (h.ts q hq).lt hb
theorem top_cells {w : World} {B : Nat} {s : Pa} (hT : w.heap[B]? = some (.cells s.top 69 (0, 0))) :
    w.cell? ⟨B, 0, Option.none⟩ = some s.av ∧ w.cell? ⟨B, 1, Option.none⟩ = some (.slice (some ⟨s.kB, 0, Option.none⟩) s.n s.n) ∧ w.cell? ⟨B, 2, Option.none⟩ = some (.slice (some ⟨s.cB, 0, Option.none⟩) s.n s.n) ∧
      w.cell? ⟨B, 3, Option.none⟩ = some (.slice (some ⟨s.tB, 0, Option.none⟩) s.n s.n) ∧ w.cell? ⟨B, 4, Option.none⟩ = some (.map (some s.hB)) := by
  unfold Pa.top at hT
  exact ⟨(blk_cell hT 0).trans rfl, (blk_cell hT 1).trans rfl, (blk_cell hT 2).trans rfl, (blk_cell hT 3).trans rfl, (blk_cell hT 4).trans rfl⟩
theorem PastAt.cells {w : World} {B : Nat} {s : Pa} (h : PastAt w B s) :
    w.cell? ⟨B, 0, Option.none⟩ = some s.av ∧ w.cell? ⟨B, 1, Option.none⟩ = some (.slice (some ⟨s.kB, 0, Option.none⟩) s.n s.n) ∧ w.cell? ⟨B, 2, Option.none⟩ = some (.slice (some ⟨s.cB, 0, Option.none⟩) s.n s.n) ∧
      w.cell? ⟨B, 3, Option.none⟩ = some (.slice (some ⟨s.tB, 0, Option.none⟩) s.n s.n) ∧ w.cell? ⟨B, 4, Option.none⟩ = some (.map (some s.hB)) := top_cells h.top
theorem row_at {n : Nat} (f : Nat → Value) {q : Nat} (hq : q < n) : ((List.range n).map f).toArray[q]? = some (f q) := by
  rw [List.getElem?_toArray, List.getElem?_map, List.getElem?_range hq]; rfl
theorem PastAt.kcell {w : World} {B : Nat} {s : Pa} (h : PastAt w B s) {q : Nat} (hq : q < s.n) : w.cell? ⟨s.kB, q, none⟩ = some (.map (some (s.kb q))) := (blk_cell h.krow q).trans (row_at _ hq)
theorem PastAt.ccell {w : World} {B : Nat} {s : Pa} (h : PastAt w B s) {q : Nat} (hq : q < s.n) : w.cell? ⟨s.cB, q, none⟩ = some (.int .u64 (cnt s.all q : Int)) := (blk_cell h.crow q).trans (row_at _ hq)
theorem PastAt.tcell {w : World} {B : Nat} {s : Pa} (h : PastAt w B s) {q : Nat} (hq : q < s.n) : w.cell? ⟨s.tB, q, none⟩ = some (s.tv q) := (blk_cell h.trow q).trans (row_at _ hq)
def Told (w : World) (v : Value) (e : Ending) (w' : World) : Prop := e = .returned v ∧ Mod (fun _ => False) w w'
/-- Is there such a process? -/
def Pa.there (s : Pa) (p : Int) : Bool := decide (0 ≤ p) && decide (p < s.n)
theorem has_past (B : Nat) (s : Pa) (p : Int) (w : World) (h : PastAt w B s) : Calls Try.prog 27 #[.pointer (some ⟨B, 0, none⟩), .int .i64 p] w fun e w' => e = .returned (.bool (s.there p)) ∧ w = w' := by
  obtain ⟨c0, c1, _⟩ := h.cells
  by_cases h1 : 0 ≤ p
  · have HE : Hid (s.there p = decide (p < s.n)) := by show _ = _; unfold Pa.there; rw [decide_eq_true h1]; simp
    have t1 : decide (0 ≤ p) = true := decide_eq_true h1
    clear h
    go_enter Try.func27, Try.ntmps27
    go_wp2
    go_ret
    exact ⟨by rw [HE.out]; rfl, rfl⟩
  · have HE : Hid (s.there p = false) := by show _ = _; unfold Pa.there; rw [decide_eq_false h1]; simp
    have t1 : decide (0 ≤ p) = false := decide_eq_false h1
    clear h
    go_enter Try.func27, Try.ntmps27
    go_wp2
    go_ret
    exact ⟨by rw [HE.out]; rfl, rfl⟩
theorem find_any (B : Nat) (s : Pa) (f x : Int) (w : World) (h : PastAt w B s) : Calls Try.prog 31 #[.pointer (some ⟨B, 0, none⟩), .agg #[.int .i64 f, .int .u64 x]] w (Told w (.int .i64 (findI s.all f x))) := by
  obtain ⟨c0, _⟩ := h.cells
  have hz := blk_lt h.top
  have HM : Hid (Mod (fun _ => False) w (w.alloc (.cells #[.int .i64 f, .int .u64 x] 34))) := (Mod.refl _ w).alloc _
  have HI := Lib.hid (index_any s.av s.all f x w.heap.size (w.alloc (.cells #[.int .i64 f, .int .u64 x] 34)) (h.all.alloc _) h.ok.len (blk_new w _))
  clear h
  go_enter Try.func31, Try.ntmps31
  go_wp2_with fail
  refine HI.out.mono ?_
  rintro e w1 ⟨rfl, hm⟩
  have HE := Lib.hid (HM.out.trans hm)
  clear hm
  go_wp2
  go_ret
  exact ⟨rfl, HE.out⟩
theorem cnt_snoc (l : List Ms) (m : Ms) (q : Nat) : cnt (l ++ [m]) q = cnt l q + if m.frm == q then 1 else 0 := by
  unfold cnt
  rw [List.filter_append]
  cases h : m.frm == q <;> simp [h]
theorem cnt_take_succ {l : List Ms} {k : Nat} {m : Ms} (h : l[k]? = some m) (q : Nat) : cnt (l.take (k + 1)) q = cnt (l.take k) q + if m.frm == q then 1 else 0 := by
  rw [List.take_add_one, h]
  exact cnt_snoc _ _ _
theorem cnt_take_mono (l : List Ms) (q : Nat) : ∀ (d j : Nat), cnt (l.take j) q ≤ cnt (l.take (j + d)) q
  | 0, j => Nat.le_refl _
  | d + 1, j => by
    refine Nat.le_trans (cnt_take_mono l q d j) ?_
    rw [show j + (d + 1) = j + d + 1 from rfl, List.take_add_one]
    unfold cnt
    rw [List.filter_append, List.length_append]
    omega
/-- Names tell messages apart. -/
theorem Pa.Ok.name {s : Pa} (h : s.Ok) {i k : Nat} {m m' : Ms} (hi : s.all[i]? = some m) (hk : s.all[k]? = some m') (hf : m.frm = m'.frm) (hn : m.num = m'.num) : i = k := by
  have key : ∀ (i k : Nat) (m m' : Ms), s.all[i]? = some m → s.all[k]? = some m' → m.frm = m'.frm → m.num = m'.num → ¬ i < k := by
    intro i k m m' hi hk hf hn hlt
    have e1 := h.num i m hi
    have e2 := h.num k m' hk
    have e3 := cnt_take_succ hi m.frm
    have e4 := cnt_take_mono s.all m.frm (k - (i + 1)) (i + 1)
    rw [show i + 1 + (k - (i + 1)) = k by omega] at e4
    rw [← hf] at e2
    simp at e3
    omega
  have h1 := key i k m m' hi hk hf hn
  have h2 := key k i m' m hk hi hf.symm hn.symm
  omega
theorem Pa.Ok.find {s : Pa} (h : s.Ok) {k : Nat} {m : Ms} (hk : s.all[k]? = some m) : findI s.all (m.frm : Int) (m.num : Int) = (k : Int) := by
  have e : s.all.findIdx? (fun y => y.is (m.frm : Int) (m.num : Int)) = some k := by
    have hlk := List.getElem?_eq_some_iff.1 hk
    have hkl := hlk.1
    rw [List.findIdx?_eq_some_iff_getElem]
    refine ⟨hlk.1, by rw [hlk.2]; simp [Ms.is], fun j hj => ?_⟩
    intro hc
    simp only [Ms.is, Bool.and_eq_true, beq_iff_eq] at hc
    have := h.name (List.getElem?_eq_getElem (by omega : j < s.all.length)) hk (by omega) (by omega)
    omega
  unfold findI
  rw [e]
end Go.Proofs.Yteicceikaecfcaa
