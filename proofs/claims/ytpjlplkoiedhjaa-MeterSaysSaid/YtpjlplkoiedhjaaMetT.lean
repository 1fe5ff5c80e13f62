/-
  MeterKnown.
-/
import Derived.Test.YtpjlplkoiedhjaaMetS
namespace Go.Proofs.Ytpjlplkoiedhjaa
open Go.RowKit Go.Shoal

theorem Sit.later {w0 w w' : World} {g : Nat} {m : Mt} (h : Sit w0 g m w) (hb : Below w.heap.size w w') : Sit w0 g m w' := by
  obtain ⟨v, h⟩ := h
  have hm : Mod (fun _ => False) w w' := Mod.of_below hb
  exact ⟨v, h.here.keep hm (fun x => x) (fun _ _ x => x), h.ok, h.own, h.row, hm.then_below h.bel (fun _ x => x.elim) h.base⟩
theorem class_is (b : Nat) (c : Int) (hb : b < B64) (h : classW b = c) (w : World) : Calls Try.prog 33 #[.float .f64 b] w fun e w' => e = .returned (.int .i64 c) ∧ w = w' := by
  have := rclass_any b w hb
  rw [h] at this
  exact this
theorem class_nan {b : Nat} (h : isN b = true) : classW b = 0 := by
  have := classW_zero b
  rw [h] at this
  exact beq_iff_eq.1 this
def negZero : Nat := signW 0 13830554455654793216
theorem negZero_is : negZero = B63 := by decide
theorem known_m {m1 m2 m3 : Mt} (h1 : AddTo newMt nanW m1) (h2 : AddTo m1 INF m2) (h3 : AddTo m2 negZero m3) :
    m3.ks.length = 3 ∧ m3.n = 2 ∧ m3.f = 1 ∧ m3.s = INF ∧ m3.le = B63 ∧ m3.mo = INF ∧ m3.sm = B63 ∧ rank m3.ks (fkey nanW) = 2 ∧ rank m3.ks (fkey 0) = 1 := by
  obtain ⟨k1, ⟨_, a1, a2, a3, a4, a5, a6⟩ | ⟨c, _⟩⟩ := h1
  · obtain ⟨k2, ⟨c, _⟩ | ⟨_, b1, b2, b3, b4, ⟨_, b5, b6⟩ | ⟨c, _⟩⟩⟩ := h2
    · exact absurd c (by decide)
    · rw [negZero_is] at h3
      obtain ⟨k3, ⟨c, _⟩ | ⟨_, d1, d2, d3, d4, ⟨c, _⟩ | ⟨_, d5, ⟨_, d6⟩ | ⟨c, _⟩⟩⟩⟩ := h3
      · exact absurd c (by decide)
      · exact absurd c (by decide)
      · rw [a3] at b2
        have s2 : m2.s = INF := arith_is b2 (by kernel_rfl)
        rw [s2] at d2
        have s3 : m3.s = INF := arith_is d2 (by kernel_rfl)
        have hk : m3.ks = ins (ins (ins [] (fkey nanW)) (fkey INF)) (fkey B63) := by rw [k3, k2, k1]; rfl
        refine ⟨by rw [hk]; decide, by rw [d1, b1, a1]; rfl, by rw [d5, b5, a2]; rfl, s3, ?_, ?_, d6, by rw [hk]; decide, by rw [hk]; decide⟩
        · rw [d3, b3, a5]; decide
        · rw [d4, b4, a6]; decide
      · rw [b5, a2] at c
        exact absurd rfl c
    · exact absurd c (by decide)
  · exact absurd c (by decide)
theorem known_n {m1 m2 : Mt} (h1 : AddTo newMt INF m1) (h2 : AddTo m1 (INF + B63) m2) : m2.n = 2 ∧ isN m2.s = true := by
  obtain ⟨k1, ⟨c, _⟩ | ⟨_, a1, a2, a3, a4, _⟩⟩ := h1
  · exact absurd c (by decide)
  · obtain ⟨k2, ⟨c, _⟩ | ⟨_, b1, b2, b3, b4, _⟩⟩ := h2
    · exact absurd c (by decide)
    · have s1 : m1.s = INF := arith_is a2 (by kernel_rfl)
      rw [s1] at b2
      refine ⟨by rw [b1, a1]; rfl, ?_⟩
      have e : floatBits .add .f64 INF (INF + B63) = none := by kernel_rfl
      rcases b2.2 with h | ⟨_, h⟩
      · rw [e] at h; cases h
      · exact h
theorem known_mean {m : Mt} {r : Nat} (h : MeanOf m r) (hn : m.n = 2) (hs : isN m.s = true) : r < B64 ∧ isN r = true := by
  rcases h with ⟨h1, _⟩ | ⟨_, h1⟩
  · omega
  · exact ⟨h1.1, arith_nan (.inr (.inr rfl)) h1 (.inl hs)⟩
theorem known_none {r : Nat} (h : MeanOf newMt r) : r < B64 ∧ isN r = true := by
  rcases h with ⟨_, rfl⟩ | ⟨h1, _⟩
  · exact nan_w
  · exact absurd rfl h1
set_option maxRecDepth 100000 in
set_option maxHeartbeats 8000000 in
theorem known_any (w : World) : Calls Try.prog 7 #[] w fun e w' => e = .returned (.bool true) ∧ Below w.heap.size w w' := by
  have HA := Lib.hid (awake_any w)
  go_enter Try.func7, Try.ntmps7
  go_wp2_with fail
  refine HA.out.mono ?_
  rintro e w1 ⟨rfl, hm⟩
  have HM1 := Lib.hid hm.none_below
  clear hm HA
  go_wp2_with fail
  refine (new_any _).mono ?_
  intro e w2 hn
  have HE2 : Hid (Sit w w1.heap.size newMt w2) := (Sit.new hn HM1.out).2
  obtain ⟨rfl, -, -⟩ := hn
  clear HM1
  generalize w1.heap.size = ge at *
  go_wp2_with fail
  refine (sit_count HE2.out).mono ?_
  rintro e w3 ⟨rfl, n3, rfl⟩
  have HE3 : Hid (Sit w ge newMt (w2.drewN n3)) := HE2.out.drewN n3
  clear HE2
  generalize World.drewN w2 n3 = w3 at *
  go_wp2_with fail
  refine (new_any _).mono ?_
  intro e w4 hn
  have HM4 : Hid (Sit w3 w3.heap.size newMt w4) := (Sit.new hn (Below.refl _ _)).2
  obtain ⟨rfl, -, -⟩ := hn
  generalize hgm : w3.heap.size = gm at *
  clear hgm
  have HC := Lib.hid (fun W => copysign_any 0 13830554455654793216 (by decide) (by decide) W)
  go_wp2_with fail
  refine (nan_any _).mono ?_
  rintro e wx ⟨rfl, rfl⟩
  go_wp2_with fail
  refine (sit_add (x := nanW) HM4.out nan_w.1 (by decide)).mono ?_
  rintro e w5 ⟨rfl, m1, ha, hs⟩
  have Hw5 := Lib.hid ha
  have Hw5S := Lib.hid hs
  clear ha hs HM4
  go_wp2_with fail
  refine (inf_any _).mono ?_
  rintro e wx ⟨rfl, rfl⟩
  go_wp2_with fail
  refine (sit_add (x := INF) Hw5S.out (by decide) (by rw [Hw5.out.len]; decide)).mono ?_
  rintro e w6 ⟨rfl, m2, ha, hs⟩
  have Hw6 := Lib.hid ha
  have Hw6S := Lib.hid hs
  clear ha hs Hw5S
  go_wp2_with fail
  refine (HC.out _).mono ?_
  rintro e wx ⟨rfl, rfl⟩
  go_wp2_with fail
  refine (sit_add (x := negZero) Hw6S.out (by decide) (by rw [Hw6.out.len, Hw5.out.len]; decide)).mono ?_
  rintro e w7 ⟨rfl, m3, ha, hs⟩
  have Hw7 := Lib.hid ha
  have Hw7S := Lib.hid hs
  clear ha hs Hw6S
  have HK := Lib.hid (known_m Hw5.out Hw6.out Hw7.out)
  clear Hw5 Hw6 Hw7
  have HCT := sit_count Hw7S.out
  rw [HK.out.1, HK.out.2.1, HK.out.2.2.1] at HCT
  have HCT := Lib.hid HCT
  go_wp2_with fail
  refine HCT.out.mono ?_
  rintro e w8 ⟨rfl, n8, rfl⟩
  have HM8 : Hid (Sit w3 gm m3 (w7.drewN n8)) := Hw7S.out.drewN n8
  clear HCT Hw7S
  generalize World.drewN w7 n8 = w8 at *
  have HE8 : Hid (Sit w ge newMt w8) := HE3.out.later HM8.out.bel
  go_wp2_with fail
  refine (new_any _).mono ?_
  intro e w9 hn
  have HN9 : Hid (Sit w8 w8.heap.size newMt w9) := (Sit.new hn (Below.refl _ _)).2
  obtain ⟨rfl, -, -⟩ := hn
  generalize hgm : w8.heap.size = gn at *
  clear hgm
  go_wp2_with fail
  refine (inf_any _).mono ?_
  rintro e wx ⟨rfl, rfl⟩
  go_wp2_with fail
  refine (sit_add (x := INF) HN9.out (by decide) (by decide)).mono ?_
  rintro e w10 ⟨rfl, p1, ha, hs⟩
  have Hw10 := Lib.hid ha
  have Hw10S := Lib.hid hs
  clear ha hs HN9
  go_wp2_with fail
  refine (minf_any _).mono ?_
  rintro e wx ⟨rfl, rfl⟩
  go_wp2_with fail
  refine (sit_add (x := (INF + B63)) Hw10S.out (by decide) (by rw [Hw10.out.len]; decide)).mono ?_
  rintro e w11 ⟨rfl, p2, ha, hs⟩
  have Hw11 := Lib.hid ha
  have Hw11S := Lib.hid hs
  clear ha hs Hw10S
  have HL := Lib.hid (known_n Hw10.out Hw11.out)
  clear Hw10 Hw11
  have HE : Hid (Sit w ge newMt w11) := HE8.out.later Hw11S.out.bel
  have HMM : Hid (Sit w3 gm m3 w11) := HM8.out.later Hw11S.out.bel
  have HNN := Lib.hid Hw11S.out
  clear HE8 HM8 Hw11S HE3 HC
  go_wp2_with fail
  refine (sit_mean HE.out).mono ?_
  rintro e wx ⟨⟨r, rfl, hr⟩, nn, rfl⟩
  have HR := Lib.hid (known_none hr)
  clear hr
  have HEx : Hid (Sit w ge newMt (World.drewN w11 nn)) := HE.out.drewN nn
  clear HE
  have HE := Lib.hid HEx.out
  clear HEx
  have HMMx : Hid (Sit w3 gm m3 (World.drewN w11 nn)) := HMM.out.drewN nn
  clear HMM
  have HMM := Lib.hid HMMx.out
  clear HMMx
  have HNNx : Hid (Sit w8 gn p2 (World.drewN w11 nn)) := HNN.out.drewN nn
  clear HNN
  have HNN := Lib.hid HNNx.out
  clear HNNx
  generalize World.drewN w11 nn = w13 at *
  go_wp2_with fail
  refine (class_is r 0 HR.out.1 (class_nan HR.out.2) _).mono ?_
  rintro e wx ⟨rfl, rfl⟩
  clear HR
  go_wp2_with fail
  refine (sit_sum HE.out).mono ?_
  rintro e wx ⟨rfl, rfl⟩
  go_wp2_with fail
  refine (class_is newMt.s 4 (by decide) (by decide) _).mono ?_
  rintro e wx ⟨rfl, rfl⟩
  go_wp2_with fail
  refine (sit_least HE.out).mono ?_
  rintro e wx ⟨rfl, rfl⟩
  go_wp2_with fail
  refine (class_is newMt.le 6 (by decide) (by decide) _).mono ?_
  rintro e wx ⟨rfl, rfl⟩
  go_wp2_with fail
  refine (sit_most HE.out).mono ?_
  rintro e wx ⟨rfl, rfl⟩
  go_wp2_with fail
  refine (class_is newMt.mo 1 (by decide) (by decide) _).mono ?_
  rintro e wx ⟨rfl, rfl⟩
  go_wp2_with fail
  refine (sit_smooth HE.out).mono ?_
  rintro e wx ⟨rfl, rfl⟩
  go_wp2_with fail
  refine (class_is newMt.sm 4 (by decide) (by decide) _).mono ?_
  rintro e wx ⟨rfl, rfl⟩
  go_wp2_with fail
  refine (sit_sum HMM.out).mono ?_
  rintro e wx ⟨rfl, rfl⟩
  go_wp2_with fail
  refine (class_is m3.s 6 (by rw [HK.out.2.2.2.1]; decide) (by rw [HK.out.2.2.2.1]; decide) _).mono ?_
  rintro e wx ⟨rfl, rfl⟩
  go_wp2_with fail
  refine (sit_least HMM.out).mono ?_
  rintro e wx ⟨rfl, rfl⟩
  go_wp2_with fail
  refine (class_is m3.le 3 (by rw [HK.out.2.2.2.2.1]; decide) (by rw [HK.out.2.2.2.2.1]; decide) _).mono ?_
  rintro e wx ⟨rfl, rfl⟩
  go_wp2_with fail
  refine (sit_most HMM.out).mono ?_
  rintro e wx ⟨rfl, rfl⟩
  go_wp2_with fail
  refine (class_is m3.mo 6 (by rw [HK.out.2.2.2.2.2.1]; decide) (by rw [HK.out.2.2.2.2.2.1]; decide) _).mono ?_
  rintro e wx ⟨rfl, rfl⟩
  go_wp2_with fail
  refine (sit_smooth HMM.out).mono ?_
  rintro e wx ⟨rfl, rfl⟩
  go_wp2_with fail
  refine (class_is m3.sm 3 (by rw [HK.out.2.2.2.2.2.2.1]; decide) (by rw [HK.out.2.2.2.2.2.2.1]; decide) _).mono ?_
  rintro e wx ⟨rfl, rfl⟩
  go_wp2_with fail
  refine (nan_any _).mono ?_
  rintro e wx ⟨rfl, rfl⟩
  have HRK := sit_rank HMM.out nanW nan_w.1 (by rw [HK.out.1]; decide)
  rw [HK.out.2.2.2.2.2.2.2.1] at HRK
  have HRK := Lib.hid HRK
  go_wp2_with fail
  refine HRK.out.mono ?_
  rintro e wx ⟨rfl, nn, rfl⟩
  clear HRK
  have HEx : Hid (Sit w ge newMt (World.drewN w13 nn)) := HE.out.drewN nn
  clear HE
  have HE := Lib.hid HEx.out
  clear HEx
  have HMMx : Hid (Sit w3 gm m3 (World.drewN w13 nn)) := HMM.out.drewN nn
  clear HMM
  have HMM := Lib.hid HMMx.out
  clear HMMx
  have HNNx : Hid (Sit w8 gn p2 (World.drewN w13 nn)) := HNN.out.drewN nn
  clear HNN
  have HNN := Lib.hid HNNx.out
  clear HNNx
  generalize World.drewN w13 nn = w14 at *
  have HRK := sit_rank HMM.out 0 (by decide) (by rw [HK.out.1]; decide)
  rw [HK.out.2.2.2.2.2.2.2.2] at HRK
  have HRK := Lib.hid HRK
  go_wp2_with fail
  refine HRK.out.mono ?_
  rintro e wx ⟨rfl, nn, rfl⟩
  clear HRK
  have HEx : Hid (Sit w ge newMt (World.drewN w14 nn)) := HE.out.drewN nn
  clear HE
  have HE := Lib.hid HEx.out
  clear HEx
  have HMMx : Hid (Sit w3 gm m3 (World.drewN w14 nn)) := HMM.out.drewN nn
  clear HMM
  have HMM := Lib.hid HMMx.out
  clear HMMx
  have HNNx : Hid (Sit w8 gn p2 (World.drewN w14 nn)) := HNN.out.drewN nn
  clear HNN
  have HNN := Lib.hid HNNx.out
  clear HNNx
  generalize World.drewN w14 nn = w15 at *
  go_wp2_with fail
  refine (sit_sum HNN.out).mono ?_
  rintro e wx ⟨rfl, rfl⟩
  go_wp2_with fail
  refine (class_is p2.s 0 HNN.out.ok.hs (class_nan HL.out.2) _).mono ?_
  rintro e wx ⟨rfl, rfl⟩
  go_wp2_with fail
  refine (sit_mean HNN.out).mono ?_
  rintro e wx ⟨⟨r, rfl, hr⟩, nn, rfl⟩
  have HR := Lib.hid (known_mean hr HL.out.1 HL.out.2)
  clear hr
  have HEx : Hid (Sit w ge newMt (World.drewN w15 nn)) := HE.out.drewN nn
  clear HE
  have HE := Lib.hid HEx.out
  clear HEx
  have HMMx : Hid (Sit w3 gm m3 (World.drewN w15 nn)) := HMM.out.drewN nn
  clear HMM
  have HMM := Lib.hid HMMx.out
  clear HMMx
  have HNNx : Hid (Sit w8 gn p2 (World.drewN w15 nn)) := HNN.out.drewN nn
  clear HNN
  have HNN := Lib.hid HNNx.out
  clear HNNx
  generalize World.drewN w15 nn = w17 at *
  go_wp2_with fail
  refine (class_is r 0 HR.out.1 (class_nan HR.out.2) _).mono ?_
  rintro e wx ⟨rfl, rfl⟩
  clear HR
  go_wp2
  go_ret
  exact ⟨rfl, HE.out.bel⟩
theorem known_walk (W : World) : Calls Try.prog 7 #[] W fun e w' => e = .returned (.bool true) ∧ Below W.heap.size W w' := known_any W
end Go.Proofs.Ytpjlplkoiedhjaa
