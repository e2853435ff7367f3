import Derived.Test.YtcdpkdehogcjnaaGreatR0
import Derived.Test.YtcdpkdehogcjnaaGreatR3
import Derived.Test.YtcdpkdehogcjnaaGreatR4
import Derived.Test.YtcdpkdehogcjnaaGreatRO
import Derived.Test.YtcdpkdehogcjnaaGreatRC
import Derived.Test.YtcdpkdehogcjnaaGreatRD
import Derived.Test.YtcdpkdehogcjnaaGreatRF
import Derived.Test.YtcdpkdehogcjnaaGreatRP
set_option linter.unusedVariables false
set_option linter.unusedSimpArgs false
namespace Go.Proofs.YtcdpkdehogcjnaaGreat.Print
open Go.RowKit Go.Proofs.YtcdpkdehogcjnaaGreatW.PrintWords Go.Proofs.YtcdpkdehogcjnaaGreatW.PrintLast Go.Proofs.YtcdpkdehogcjnaaGreatW.PrintMore
attribute [local go_sem] max2_int min2_int max_two min_two max_three min_three max_four min_four
mutual
def beryllaw20_DiskWrites.j0 : Nat → List Int → List (S40) → List Int → List (S42) → Int → Int → Bool → Bool → Option (Bool)
 | 0, _, _, _, _, _, _, _, _ => none
 | k + 1, x0, x1, x2, x3, x4, x5, x13, x38 => if x38 = true then (some x13) else ((disk_Write.f x0 x1).bind fun bt379 => ((berylref20_Write.f x0 x1).bind fun bt383 => ((disk_Save.f x0 x1).bind fun bt387 => ((berylref20_Save.f x0 x1).bind fun bt391 => ((berylref20_SamePuts.f k bt379.1 bt383.1).bind fun t395 => (if t395 = true then (if bt379.2 = bt383.2 then ((berylref20_SamePuts.f k bt387.1 bt391.1).bind fun t396 => (if t396 = true then (beryllaw20_DiskWrites.j1 k x0 x2 x3 x4 x5 x13 (bt387.2 != bt391.2)) else (beryllaw20_DiskWrites.j1 k x0 x2 x3 x4 x5 x13 true))) else (beryllaw20_DiskWrites.j1 k x0 x2 x3 x4 x5 x13 true)) else (beryllaw20_DiskWrites.j1 k x0 x2 x3 x4 x5 x13 true)))))))
def beryllaw20_DiskWrites.j1 : Nat → List Int → List Int → List (S42) → Int → Int → Bool → Bool → Option (Bool)
 | 0, _, _, _, _, _, _, _ => none
 | k + 1, x0, x2, x3, x4, x5, x13, x83 => if x83 = true then (some false) else ((disk_Drop.f x0 x2).bind fun bt397 => ((berylref20_Drop.f x0 x2).bind fun bt401 => ((disk_Do.f x0 x3).bind fun bt405 => ((berylref20_Do.f k x0 x3).bind fun bt409 => ((berylref20_SamePuts.f k bt397.1 bt401.1).bind fun t413 => (if t413 = true then (if bt397.2 = bt401.2 then (if (strOfNums bt405.1).toList = (strOfNums bt409.1).toList then (beryllaw20_DiskWrites.j2 k x0 x3 x4 x5 x13 (bt405.2 != bt409.2)) else (beryllaw20_DiskWrites.j2 k x0 x3 x4 x5 x13 true)) else (beryllaw20_DiskWrites.j2 k x0 x3 x4 x5 x13 true)) else (beryllaw20_DiskWrites.j2 k x0 x3 x4 x5 x13 true)))))))
def beryllaw20_DiskWrites.j2 : Nat → List Int → List (S42) → Int → Int → Bool → Bool → Option (Bool)
 | 0, _, _, _, _, _, _ => none
 | k + 1, x0, x3, x4, x5, x13, x128 => if x128 = true then (some false) else ((disk_Torn.f x0 x3 x4 x5).bind fun bt414 => ((berylref20_Torn.f k x0 x3 x4 x5).bind fun bt418 => (if x13 = true then (if (strOfNums bt414.1).toList = (strOfNums bt418.1).toList then (some (bt414.2 == bt418.2)) else (some false)) else (some false))))
end
def beryllaw20_DiskWrites.f (k : Nat) (l0 : List Int) (l1 : List (S40)) (l2 : List Int) (l3 : List (S42)) (a4 : Int) (a5 : Int) : Option (Bool) := (beryllaw20_awake.f).bind fun t376 => ((beryllaw20_few.f k l0 l1).bind fun t377 => (if t377 = true then (if (l2.length : Int) > 300 then (beryllaw20_DiskWrites.j0 k l0 l1 l2 l3 a4 a5 t376 true) else ((beryllaw20_slight.f k l3).bind fun t378 => (beryllaw20_DiskWrites.j0 k l0 l1 l2 l3 a4 a5 t376 (!t378)))) else (beryllaw20_DiskWrites.j0 k l0 l1 l2 l3 a4 a5 t376 true)))
theorem beryllaw20_DiskWrites.mono_l : ∀ k, (∀ y0 y1 y2 y3 y4 y5 y6 y7, LeO (beryllaw20_DiskWrites.j0 k y0 y1 y2 y3 y4 y5 y6 y7) (beryllaw20_DiskWrites.j0 (k + 1) y0 y1 y2 y3 y4 y5 y6 y7)) ∧ (∀ y0 y1 y2 y3 y4 y5 y6, LeO (beryllaw20_DiskWrites.j1 k y0 y1 y2 y3 y4 y5 y6) (beryllaw20_DiskWrites.j1 (k + 1) y0 y1 y2 y3 y4 y5 y6)) ∧ (∀ y0 y1 y2 y3 y4 y5, LeO (beryllaw20_DiskWrites.j2 k y0 y1 y2 y3 y4 y5) (beryllaw20_DiskWrites.j2 (k + 1) y0 y1 y2 y3 y4 y5))
 | 0 => ⟨fun _ _ _ _ _ _ _ _ r h => by simp [beryllaw20_DiskWrites.j0] at h, fun _ _ _ _ _ _ _ r h => by simp [beryllaw20_DiskWrites.j1] at h, fun _ _ _ _ _ _ r h => by simp [beryllaw20_DiskWrites.j2] at h⟩
 | k + 1 => by
  obtain ⟨ih0, ih1, ih2⟩ := beryllaw20_DiskWrites.mono_l k
  refine ⟨?_, ?_, ?_⟩
  ·intro y0 y1 y2 y3 y4 y5 y6 y7
   unfold beryllaw20_DiskWrites.j0
   repeat' first
   | (with_reducible exact ih0 _ _ _ _ _ _ _ _)
   | (with_reducible exact ih1 _ _ _ _ _ _ _)
   | (with_reducible exact ih2 _ _ _ _ _ _)
   | (with_reducible exact beryllaw20_few.mono _ _ _)
   | (with_reducible exact beryllaw20_slight.mono _ _)
   | (with_reducible exact berylref20_Do.mono _ _ _)
   | (with_reducible exact berylref20_SamePuts.mono _ _ _)
   | (with_reducible exact berylref20_Torn.mono _ _ _ _ _)
   | (with_reducible exact LeO.refl _)
   | (with_reducible exact LeO.none _)
   | (with_reducible refine LeO.ite ?_ ?_)
   | (with_reducible refine LeO.bind ?_ (fun _ => ?_))
   | exact ih0 _ _ _ _ _ _ _ _
   | exact ih1 _ _ _ _ _ _ _
   | exact ih2 _ _ _ _ _ _
   | exact beryllaw20_few.mono _ _ _
   | exact beryllaw20_slight.mono _ _
   | exact berylref20_Do.mono _ _ _
   | exact berylref20_SamePuts.mono _ _ _
   | exact berylref20_Torn.mono _ _ _ _ _
   | exact LeO.none _
   | refine LeO.ite ?_ ?_
   | refine LeO.bind ?_ (fun _ => ?_)
  ·intro y0 y1 y2 y3 y4 y5 y6
   unfold beryllaw20_DiskWrites.j1
   repeat' first
   | (with_reducible exact ih0 _ _ _ _ _ _ _ _)
   | (with_reducible exact ih1 _ _ _ _ _ _ _)
   | (with_reducible exact ih2 _ _ _ _ _ _)
   | (with_reducible exact beryllaw20_few.mono _ _ _)
   | (with_reducible exact beryllaw20_slight.mono _ _)
   | (with_reducible exact berylref20_Do.mono _ _ _)
   | (with_reducible exact berylref20_SamePuts.mono _ _ _)
   | (with_reducible exact berylref20_Torn.mono _ _ _ _ _)
   | (with_reducible exact LeO.refl _)
   | (with_reducible exact LeO.none _)
   | (with_reducible refine LeO.ite ?_ ?_)
   | (with_reducible refine LeO.bind ?_ (fun _ => ?_))
   | exact ih0 _ _ _ _ _ _ _ _
   | exact ih1 _ _ _ _ _ _ _
   | exact ih2 _ _ _ _ _ _
   | exact beryllaw20_few.mono _ _ _
   | exact beryllaw20_slight.mono _ _
   | exact berylref20_Do.mono _ _ _
   | exact berylref20_SamePuts.mono _ _ _
   | exact berylref20_Torn.mono _ _ _ _ _
   | exact LeO.none _
   | refine LeO.ite ?_ ?_
   | refine LeO.bind ?_ (fun _ => ?_)
  ·intro y0 y1 y2 y3 y4 y5
   unfold beryllaw20_DiskWrites.j2
   repeat' first
   | (with_reducible exact ih0 _ _ _ _ _ _ _ _)
   | (with_reducible exact ih1 _ _ _ _ _ _ _)
   | (with_reducible exact ih2 _ _ _ _ _ _)
   | (with_reducible exact beryllaw20_few.mono _ _ _)
   | (with_reducible exact beryllaw20_slight.mono _ _)
   | (with_reducible exact berylref20_Do.mono _ _ _)
   | (with_reducible exact berylref20_SamePuts.mono _ _ _)
   | (with_reducible exact berylref20_Torn.mono _ _ _ _ _)
   | (with_reducible exact LeO.refl _)
   | (with_reducible exact LeO.none _)
   | (with_reducible refine LeO.ite ?_ ?_)
   | (with_reducible refine LeO.bind ?_ (fun _ => ?_))
   | exact ih0 _ _ _ _ _ _ _ _
   | exact ih1 _ _ _ _ _ _ _
   | exact ih2 _ _ _ _ _ _
   | exact beryllaw20_few.mono _ _ _
   | exact beryllaw20_slight.mono _ _
   | exact berylref20_Do.mono _ _ _
   | exact berylref20_SamePuts.mono _ _ _
   | exact berylref20_Torn.mono _ _ _ _ _
   | exact LeO.none _
   | refine LeO.ite ?_ ?_
   | refine LeO.bind ?_ (fun _ => ?_)
theorem beryllaw20_DiskWrites.mono : ∀ a0 a1 a2 a3 a4 a5 k, LeO (beryllaw20_DiskWrites.f k a0 a1 a2 a3 a4 a5) (beryllaw20_DiskWrites.f (k + 1) a0 a1 a2 a3 a4 a5) := by
 intro a0 a1 a2 a3 a4 a5 k
 obtain ⟨ih0, ih1, ih2⟩ := beryllaw20_DiskWrites.mono_l k
 unfold beryllaw20_DiskWrites.f
 repeat' first
   | (with_reducible exact ih0 _ _ _ _ _ _ _ _)
   | (with_reducible exact ih1 _ _ _ _ _ _ _)
   | (with_reducible exact ih2 _ _ _ _ _ _)
   | (with_reducible exact beryllaw20_few.mono _ _ _)
   | (with_reducible exact beryllaw20_slight.mono _ _)
   | (with_reducible exact berylref20_Do.mono _ _ _)
   | (with_reducible exact berylref20_SamePuts.mono _ _ _)
   | (with_reducible exact berylref20_Torn.mono _ _ _ _ _)
   | (with_reducible exact LeO.refl _)
   | (with_reducible exact LeO.none _)
   | (with_reducible refine LeO.ite ?_ ?_)
   | (with_reducible refine LeO.bind ?_ (fun _ => ?_))
   | exact ih0 _ _ _ _ _ _ _ _
   | exact ih1 _ _ _ _ _ _ _
   | exact ih2 _ _ _ _ _ _
   | exact beryllaw20_few.mono _ _ _
   | exact beryllaw20_slight.mono _ _
   | exact berylref20_Do.mono _ _ _
   | exact berylref20_SamePuts.mono _ _ _
   | exact berylref20_Torn.mono _ _ _ _ _
   | exact LeO.none _
   | refine LeO.ite ?_ ?_
   | refine LeO.bind ?_ (fun _ => ?_)
set_option maxHeartbeats 8000000 in
set_option maxRecDepth 100000 in
theorem beryllaw20_DiskWrites.calls (k : Nat) (A0 : Option Addr) (c0 : Nat) (l0 : List Int) (A1 : Option Addr) (c1 : Nat) (l1 : List (S40)) (A2 : Option Addr) (c2 : Nat) (l2 : List Int) (A3 : Option Addr) (c3 : Nat) (l3 : List (S42)) (a4 : Int) (a5 : Int) (r : Bool) (w : World) (hr0 : Kd.C (Kd.int .u8) w A0 l0.length l0) (hc0 : l0.length ≤ c0) (hr1 : Kd.C k40 w A1 l1.length l1) (hc1 : l1.length ≤ c1) (hr2 : Kd.C (Kd.int .i64) w A2 l2.length l2) (hc2 : l2.length ≤ c2) (hr3 : Kd.C k42 w A3 l3.length l3) (hc3 : l3.length ≤ c3) (h : beryllaw20_DiskWrites.f k l0 l1 l2 l3 a4 a5 = some r) :
  Calls Tryz.prog 3 #[.slice A0 l0.length c0, .slice A1 l1.length c1, .slice A2 l2.length c2, .slice A3 l3.length c3, .int .i64 a4, .int .i64 a5] w fun e w' => e = .returned (.bool r) ∧ Below w.heap.size w w' := by
 have HR0 := Aside0.mk hr0
 have HC0 := Aside0.mk hc0
 clear hr0 hc0
 have HR1 := Aside0.mk hr1
 have HC1 := Aside0.mk hc1
 clear hr1 hc1
 have HR2 := Aside0.mk hr2
 have HC2 := Aside0.mk hc2
 clear hr2 hc2
 have HR3 := Aside0.mk hr3
 have HC3 := Aside0.mk hc3
 clear hr3 hc3
 have HB := Aside0.mk (Below.refl w.heap.size w)
 have H : ((beryllaw20_awake.f).bind fun t376 => ((beryllaw20_few.f k l0 l1).bind fun t377 => (if t377 = true then (if (l2.length : Int) > 300 then (beryllaw20_DiskWrites.j0 k l0 l1 l2 l3 a4 a5 t376 true) else ((beryllaw20_slight.f k l3).bind fun t378 => (beryllaw20_DiskWrites.j0 k l0 l1 l2 l3 a4 a5 t376 (!t378)))) else (beryllaw20_DiskWrites.j0 k l0 l1 l2 l3 a4 a5 t376 true)))) = some r := h
 clear h
 replace H := Option.bind_eq_some_iff.mp H
 obtain ⟨t376, A70, H⟩ := H
 have A7 := Aside0.mk A70
 clear A70
 have HC8 := Aside0.mk H
 clear H
 go_enter Tryz.func3, Tryz.ntmps3
 go_upto_region 2 with (first | ((with_reducible refine gate_callee (f := 4) rfl ?_); refine goesL_ (some 24) rfl rfl Tryz.func4 (by kernel_rfl) rfl #[] rfl aQ ?_; (with_reducible refine (beryllaw20_awake.calls  t376 _ A7.out).mono ?_); rintro e w9 ⟨rfl, hb⟩; refine ⟨_, rfl, ?_⟩; have n0_ := Aside0.mk (below_step bQ hb); clear HB; have HB := n0_; clear n0_; (try clear hb); (try clear hb2); (try clear hk); (try clear hi)))
 (try simp only [Act.put, List.setIfInBounds_toArray, List.set_cons_zero, List.set_cons_succ])
 go_cut [38] (fun v38 wc => ∃ (kq : Nat) (x38_7 : Bool), v38 = .bool x38_7 ∧ Aside0 (beryllaw20_DiskWrites.j0 kq l0 l1 l2 l3 a4 a5 t376 x38_7 = some r) ∧ Aside0 (kq ≤ k) ∧ Aside0 (Below w.heap.size w wc))
 case first =>
  have H := HC8.out
  clear HC8
  replace H := Option.bind_eq_some_iff.mp H
  obtain ⟨t377, A100, H⟩ := H
  have A10 := Aside0.mk A100
  clear A100
  by_cases c11 : t377 = true
  ·subst c11
   rw [if_pos rfl] at H
   by_cases c12 : (l2.length : Int) > 300
   ·rw [if_pos c12] at H
    have c12b0 : decide (300 < (l2.length : Int)) = true := decide_eq_true c12
    have c12b1 : decide (300 < l2.length) = true := decide_eq_true (by omega)
    clear c12
    (first | rw [c12b0] | (simp only [i64_w, i32_w]; rw [c12b0]) | skip)
    have H' := Aside0.mk H
    clear H
    go_wp2_with (first | ((with_reducible refine gate_callee (f := 5) rfl ?_); refine goesL_ (some 27) rfl rfl Tryz.func5 (by kernel_rfl) rfl #[.slice A0 l0.length c0, .slice A1 l1.length c1] rfl aQ ?_; (with_reducible refine (beryllaw20_few.calls k _ _ l0 _ _ l1 true _ ?side1 ?side2 ?side3 ?side4 A10.out).mono ?_); (case side1 => exact cQ (Kd.C_below HR0.out HB.out)); (case side2 => exact HC0.out); (case side3 => exact cQ (Kd.C_below HR1.out HB.out)); (case side4 => exact HC1.out); rintro e w' ⟨rfl, ⟨nd, rfl⟩⟩; refine ⟨_, rfl, ?_⟩))
    go_meet
    case rel => exact ⟨_, (true), sQ, H', ⟨by first | omega | exact Nat.le_refl _⟩, ⟨bQ⟩⟩
   ·rw [if_neg c12] at H
    have c12b0 : decide (300 < (l2.length : Int)) = false := decide_eq_false c12
    have c12b1 : decide (300 < l2.length) = false := decide_eq_false (by omega)
    clear c12
    (first | rw [c12b0] | (simp only [i64_w, i32_w]; rw [c12b0]) | skip)
    replace H := Option.bind_eq_some_iff.mp H
    obtain ⟨t378, A130, H⟩ := H
    have A13 := Aside0.mk A130
    clear A130
    have H' := Aside0.mk H
    clear H
    go_wp2_with (first | ((with_reducible refine gate_callee (f := 5) rfl ?_); refine goesL_ (some 27) rfl rfl Tryz.func5 (by kernel_rfl) rfl #[.slice A0 l0.length c0, .slice A1 l1.length c1] rfl aQ ?_; (with_reducible refine (beryllaw20_few.calls k _ _ l0 _ _ l1 true _ ?side1 ?side2 ?side3 ?side4 A10.out).mono ?_); (case side1 => exact cQ (Kd.C_below HR0.out HB.out)); (case side2 => exact HC0.out); (case side3 => exact cQ (Kd.C_below HR1.out HB.out)); (case side4 => exact HC1.out); rintro e w' ⟨rfl, ⟨nd, rfl⟩⟩; refine ⟨_, rfl, ?_⟩) | (go_at_call 6; (with_reducible refine (beryllaw20_slight.calls k _ _ l3 t378 _ ?side1 ?side2 A13.out).mono ?_); (case side1 => exact cQ (Kd.C_below HR3.out bQ)); (case side2 => exact HC3.out); rintro e w' ⟨rfl, ⟨nd, rfl⟩⟩))
    go_meet
    case rel => exact ⟨_, (!t378), sQ, H', ⟨by first | omega | exact Nat.le_refl _⟩, ⟨bQ⟩⟩
  ·replace c11 := Bool.eq_false_iff.mpr c11
   subst c11
   rw [if_neg (show ¬ (false = true) by decide)] at H
   have H' := Aside0.mk H
   clear H
   go_wp2_with (first | ((with_reducible refine gate_callee (f := 5) rfl ?_); refine goesL_ (some 27) rfl rfl Tryz.func5 (by kernel_rfl) rfl #[.slice A0 l0.length c0, .slice A1 l1.length c1] rfl aQ ?_; (with_reducible refine (beryllaw20_few.calls k _ _ l0 _ _ l1 false _ ?side1 ?side2 ?side3 ?side4 A10.out).mono ?_); (case side1 => exact cQ (Kd.C_below HR0.out HB.out)); (case side2 => exact HC0.out); (case side3 => exact cQ (Kd.C_below HR1.out HB.out)); (case side4 => exact HC1.out); rintro e w' ⟨rfl, ⟨nd, rfl⟩⟩; refine ⟨_, rfl, ?_⟩))
   go_meet
   case rel => exact ⟨_, (true), sQ, H', ⟨by first | omega | exact Nat.le_refl _⟩, ⟨bQ⟩⟩
 case rest =>
  clear HC8
  try clear c1
  try clear c2
  try clear p2
  try clear c3
  try clear c4
  try clear c5
  try clear c11
  try clear c12
  try clear c12b0
  try clear c12b1
  obtain ⟨kq, x38_7, rfl, HA, HJ7, HB⟩ := hcut
  cases kq with
  | zero => exact absurd HA.out (by simp [beryllaw20_DiskWrites.j0])
  | succ kj7 =>
   have H := HA.out
   clear HA
   simp only [beryllaw20_DiskWrites.j0] at H
   by_cases c14 : x38_7 = true
   ·subst c14
    rw [if_pos rfl] at H
    obtain rfl := Option.some.inj H
    go_wp2
    go_ret
    exact ⟨eQ, bQ⟩
   ·replace c14 := Bool.eq_false_iff.mpr c14
    subst c14
    rw [if_neg (show ¬ (false = true) by decide)] at H
    replace H := Option.bind_eq_some_iff.mp H
    obtain ⟨⟨t379, t380⟩, A150, H⟩ := H
    try dsimp only at H
    have A15 := Aside0.mk A150
    clear A150
    replace H := Option.bind_eq_some_iff.mp H
    obtain ⟨⟨t383, t384⟩, A160, H⟩ := H
    try dsimp only at H
    have A16 := Aside0.mk A160
    clear A160
    replace H := Option.bind_eq_some_iff.mp H
    obtain ⟨⟨t387, t388⟩, A170, H⟩ := H
    try dsimp only at H
    have A17 := Aside0.mk A170
    clear A170
    replace H := Option.bind_eq_some_iff.mp H
    obtain ⟨⟨t391, t392⟩, A180, H⟩ := H
    try dsimp only at H
    have A18 := Aside0.mk A180
    clear A180
    have HC19 := Aside0.mk H
    clear H
    go_upto_region 8 with (first | ((with_reducible refine gate_callee (f := 7) rfl ?_); refine goesL_ (some 43) rfl rfl Tryz.func7 (by kernel_rfl) rfl #[.slice A0 l0.length c0, .slice A1 l1.length c1] rfl aQ ?_; (with_reducible refine (disk_Write.calls _ _ l0 _ _ l1 t379 t380 _ ?side1 ?side2 ?side3 ?side4 A15.out).mono ?_); (case side1 => exact cQ (Kd.C_below HR0.out HB.out)); (case side2 => exact HC0.out); (case side3 => exact cQ (Kd.C_below HR1.out HB.out)); (case side4 => exact HC1.out); rintro e w20 ⟨v381, rfl, ho0, hb⟩; refine ⟨_, rfl, ?_⟩; have n0_ := Aside0.mk (Kd.R_lower ho0 (below_size bQ)); have n1_ := Aside0.mk (below_step bQ hb); clear HB; have HO382 := n0_; have HB := n1_; clear n0_ n1_; (try clear hb); (try clear hb2); (try clear hk); (try clear hi); (try clear ho0)) | ((with_reducible refine gate_callee (f := 8) rfl ?_); refine goesL_ (some 49) rfl rfl Tryz.func8 (by kernel_rfl) rfl #[.slice A0 l0.length c0, .slice A1 l1.length c1] rfl aQ ?_; (with_reducible refine (berylref20_Write.calls _ _ l0 _ _ l1 t383 t384 _ ?side1 ?side2 ?side3 ?side4 A16.out).mono ?_); (case side1 => exact cQ (Kd.C_below HR0.out HB.out)); (case side2 => exact HC0.out); (case side3 => exact cQ (Kd.C_below HR1.out HB.out)); (case side4 => exact HC1.out); rintro e w21 ⟨v385, rfl, ho0, hb⟩; refine ⟨_, rfl, ?_⟩; have n0_ := Aside0.mk (Kd.R_elder' (rQ HO382.out) (Kd.R_base ho0) hb); have n1_ := Aside0.mk (Kd.R_lower (Kd.R_new' ho0 (Kd.R_lt (rQ HO382.out))) (below_size bQ)); have n2_ := Aside0.mk (below_step bQ hb); clear HO382; clear HB; have HO382 := n0_; have HO386 := n1_; have HB := n2_; clear n0_ n1_ n2_; (try clear hb); (try clear hb2); (try clear hk); (try clear hi); (try clear ho0)) | ((with_reducible refine gate_callee (f := 9) rfl ?_); refine goesL_ (some 55) rfl rfl Tryz.func9 (by kernel_rfl) rfl #[.slice A0 l0.length c0, .slice A1 l1.length c1] rfl aQ ?_; (with_reducible refine (disk_Save.calls _ _ l0 _ _ l1 t387 t388 _ ?side1 ?side2 ?side3 ?side4 A17.out).mono ?_); (case side1 => exact cQ (Kd.C_below HR0.out HB.out)); (case side2 => exact HC0.out); (case side3 => exact cQ (Kd.C_below HR1.out HB.out)); (case side4 => exact HC1.out); rintro e w22 ⟨v389, rfl, ho0, hb⟩; refine ⟨_, rfl, ?_⟩; have n0_ := Aside0.mk (Kd.R_elder' (rQ HO382.out) (Kd.R_base ho0) hb); have n1_ := Aside0.mk (Kd.R_elder' (rQ HO386.out) (Kd.R_base ho0) hb); have n2_ := Aside0.mk (Kd.R_lower (Kd.R_new' (Kd.R_new' ho0 (Kd.R_lt (rQ HO382.out))) (Kd.R_lt (rQ HO386.out))) (below_size bQ)); have n3_ := Aside0.mk (below_step bQ hb); clear HO382; clear HO386; clear HB; have HO382 := n0_; have HO386 := n1_; have HO390 := n2_; have HB := n3_; clear n0_ n1_ n2_ n3_; (try clear hb); (try clear hb2); (try clear hk); (try clear hi); (try clear ho0)) | ((with_reducible refine gate_callee (f := 10) rfl ?_); refine goesL_ (some 61) rfl rfl Tryz.func10 (by kernel_rfl) rfl #[.slice A0 l0.length c0, .slice A1 l1.length c1] rfl aQ ?_; (with_reducible refine (berylref20_Save.calls _ _ l0 _ _ l1 t391 t392 _ ?side1 ?side2 ?side3 ?side4 A18.out).mono ?_); (case side1 => exact cQ (Kd.C_below HR0.out HB.out)); (case side2 => exact HC0.out); (case side3 => exact cQ (Kd.C_below HR1.out HB.out)); (case side4 => exact HC1.out); rintro e w23 ⟨v393, rfl, ho0, hb⟩; refine ⟨_, rfl, ?_⟩; have n0_ := Aside0.mk (Kd.R_elder' (rQ HO382.out) (Kd.R_base ho0) hb); have n1_ := Aside0.mk (Kd.R_elder' (rQ HO386.out) (Kd.R_base ho0) hb); have n2_ := Aside0.mk (Kd.R_elder' (rQ HO390.out) (Kd.R_base ho0) hb); have n3_ := Aside0.mk (Kd.R_lower (Kd.R_new' (Kd.R_new' (Kd.R_new' ho0 (Kd.R_lt (rQ HO382.out))) (Kd.R_lt (rQ HO386.out))) (Kd.R_lt (rQ HO390.out))) (below_size bQ)); have n4_ := Aside0.mk (below_step bQ hb); clear HO382; clear HO386; clear HO390; clear HB; have HO382 := n0_; have HO386 := n1_; have HO390 := n2_; have HO394 := n3_; have HB := n4_; clear n0_ n1_ n2_ n3_ n4_; (try clear hb); (try clear hb2); (try clear hk); (try clear hi); (try clear ho0)))
    (try simp only [Act.put, List.setIfInBounds_toArray, List.set_cons_zero, List.set_cons_succ])
    go_cut [83] (fun v83 wc => ∃ (kq : Nat) (x83_18 : Bool), v83 = .bool x83_18 ∧ Aside0 (beryllaw20_DiskWrites.j1 kq l0 l2 l3 a4 a5 t376 x83_18 = some r) ∧ Aside0 (kq ≤ kj7) ∧ Aside0 (Below w.heap.size w wc))
    case first =>
     have H := HC19.out
     clear HC19
     replace H := Option.bind_eq_some_iff.mp H
     obtain ⟨t395, A240, H⟩ := H
     have A24 := Aside0.mk A240
     clear A240
     by_cases c25 : t395 = true
     ·subst c25
      rw [if_pos rfl] at H
      by_cases c26 : t380 = t384
      ·rw [if_pos c26] at H
       have c26b0 : (t380 == t384) = true := beq_iff_eq.mpr c26
       have c26b1 : (t380 != t384) = false := bne_eq_false_iff_eq.mpr c26
       clear c26
       (first | rw [c26b0] | (simp only [i64_w, i32_w]; rw [c26b0]) | skip)
       replace H := Option.bind_eq_some_iff.mp H
       obtain ⟨t396, A270, H⟩ := H
       have A27 := Aside0.mk A270
       clear A270
       by_cases c28 : t396 = true
       ·subst c28
        rw [if_pos rfl] at H
        have H' := Aside0.mk H
        clear H
        obtain ⟨Ao29, co29, eo29⟩ := Kd.R_slice HO382.out
        subst eo29
        obtain ⟨Ao30, co30, eo30⟩ := Kd.R_slice HO386.out
        subst eo30
        go_wp2_with (first | ((with_reducible refine gate_callee (f := 11) rfl ?_); refine goesL_ (some 66) rfl rfl Tryz.func11 (by kernel_rfl) rfl #[.slice Ao29 t379.length co29, .slice Ao30 t383.length co30] rfl aQ ?_; (with_reducible refine (berylref20_SamePuts.calls kj7 _ _ t379 _ _ t383 true _ ?side1 ?side2 ?side3 ?side4 A24.out).mono ?_); (case side1 => exact cQ (Kd.R_reads' HO382.out).2.2); (case side2 => exact (Kd.R_reads' HO382.out).2.1); (case side3 => exact cQ (Kd.R_reads' HO386.out).2.2); (case side4 => exact (Kd.R_reads' HO386.out).2.1); rintro e w' ⟨rfl, ⟨nd, rfl⟩⟩; refine ⟨_, rfl, ?_⟩; obtain ⟨Ao31, co31, eo31⟩ := Kd.R_slice HO390.out; subst eo31; obtain ⟨Ao32, co32, eo32⟩ := Kd.R_slice HO394.out; subst eo32) | (go_at_call 11; (with_reducible refine (berylref20_SamePuts.calls kj7 _ _ t387 _ _ t391 true _ ?side1 ?side2 ?side3 ?side4 A27.out).mono ?_); (case side1 => exact cQ (Kd.R_reads' HO390.out).2.2); (case side2 => exact (Kd.R_reads' HO390.out).2.1); (case side3 => exact cQ (Kd.R_reads' HO394.out).2.2); (case side4 => exact (Kd.R_reads' HO394.out).2.1); rintro e w' ⟨rfl, ⟨nd, rfl⟩⟩))
        go_meet
        case rel => exact ⟨_, ((t388 != t392)), sQ, H', ⟨by have := HJ7.out; first | omega | exact Nat.le_refl _⟩, ⟨bQ⟩⟩
       ·replace c28 := Bool.eq_false_iff.mpr c28
        subst c28
        rw [if_neg (show ¬ (false = true) by decide)] at H
        have H' := Aside0.mk H
        clear H
        obtain ⟨Ao33, co33, eo33⟩ := Kd.R_slice HO382.out
        subst eo33
        obtain ⟨Ao34, co34, eo34⟩ := Kd.R_slice HO386.out
        subst eo34
        go_wp2_with (first | ((with_reducible refine gate_callee (f := 11) rfl ?_); refine goesL_ (some 66) rfl rfl Tryz.func11 (by kernel_rfl) rfl #[.slice Ao33 t379.length co33, .slice Ao34 t383.length co34] rfl aQ ?_; (with_reducible refine (berylref20_SamePuts.calls kj7 _ _ t379 _ _ t383 true _ ?side1 ?side2 ?side3 ?side4 A24.out).mono ?_); (case side1 => exact cQ (Kd.R_reads' HO382.out).2.2); (case side2 => exact (Kd.R_reads' HO382.out).2.1); (case side3 => exact cQ (Kd.R_reads' HO386.out).2.2); (case side4 => exact (Kd.R_reads' HO386.out).2.1); rintro e w' ⟨rfl, ⟨nd, rfl⟩⟩; refine ⟨_, rfl, ?_⟩; obtain ⟨Ao35, co35, eo35⟩ := Kd.R_slice HO390.out; subst eo35; obtain ⟨Ao36, co36, eo36⟩ := Kd.R_slice HO394.out; subst eo36) | (go_at_call 11; (with_reducible refine (berylref20_SamePuts.calls kj7 _ _ t387 _ _ t391 false _ ?side1 ?side2 ?side3 ?side4 A27.out).mono ?_); (case side1 => exact cQ (Kd.R_reads' HO390.out).2.2); (case side2 => exact (Kd.R_reads' HO390.out).2.1); (case side3 => exact cQ (Kd.R_reads' HO394.out).2.2); (case side4 => exact (Kd.R_reads' HO394.out).2.1); rintro e w' ⟨rfl, ⟨nd, rfl⟩⟩))
        go_meet
        case rel => exact ⟨_, (true), sQ, H', ⟨by have := HJ7.out; first | omega | exact Nat.le_refl _⟩, ⟨bQ⟩⟩
      ·rw [if_neg c26] at H
       have c26b0 : (t380 == t384) = false := beq_eq_false_iff_ne.mpr c26
       have c26b1 : (t380 != t384) = true := bne_iff_ne.mpr c26
       (first | rw [c26b0] | (simp only [i64_w, i32_w]; rw [c26b0]) | skip)
       have H' := Aside0.mk H
       clear H
       obtain ⟨Ao37, co37, eo37⟩ := Kd.R_slice HO382.out
       subst eo37
       obtain ⟨Ao38, co38, eo38⟩ := Kd.R_slice HO386.out
       subst eo38
       go_wp2_with (first | ((with_reducible refine gate_callee (f := 11) rfl ?_); refine goesL_ (some 66) rfl rfl Tryz.func11 (by kernel_rfl) rfl #[.slice Ao37 t379.length co37, .slice Ao38 t383.length co38] rfl aQ ?_; (with_reducible refine (berylref20_SamePuts.calls kj7 _ _ t379 _ _ t383 true _ ?side1 ?side2 ?side3 ?side4 A24.out).mono ?_); (case side1 => exact cQ (Kd.R_reads' HO382.out).2.2); (case side2 => exact (Kd.R_reads' HO382.out).2.1); (case side3 => exact cQ (Kd.R_reads' HO386.out).2.2); (case side4 => exact (Kd.R_reads' HO386.out).2.1); rintro e w' ⟨rfl, ⟨nd, rfl⟩⟩; refine ⟨_, rfl, ?_⟩))
       go_meet
       case rel => exact ⟨_, (true), sQ, H', ⟨by have := HJ7.out; first | omega | exact Nat.le_refl _⟩, ⟨bQ⟩⟩
     ·replace c25 := Bool.eq_false_iff.mpr c25
      subst c25
      rw [if_neg (show ¬ (false = true) by decide)] at H
      have H' := Aside0.mk H
      clear H
      obtain ⟨Ao39, co39, eo39⟩ := Kd.R_slice HO382.out
      subst eo39
      obtain ⟨Ao40, co40, eo40⟩ := Kd.R_slice HO386.out
      subst eo40
      go_wp2_with (first | ((with_reducible refine gate_callee (f := 11) rfl ?_); refine goesL_ (some 66) rfl rfl Tryz.func11 (by kernel_rfl) rfl #[.slice Ao39 t379.length co39, .slice Ao40 t383.length co40] rfl aQ ?_; (with_reducible refine (berylref20_SamePuts.calls kj7 _ _ t379 _ _ t383 false _ ?side1 ?side2 ?side3 ?side4 A24.out).mono ?_); (case side1 => exact cQ (Kd.R_reads' HO382.out).2.2); (case side2 => exact (Kd.R_reads' HO382.out).2.1); (case side3 => exact cQ (Kd.R_reads' HO386.out).2.2); (case side4 => exact (Kd.R_reads' HO386.out).2.1); rintro e w' ⟨rfl, ⟨nd, rfl⟩⟩; refine ⟨_, rfl, ?_⟩))
      go_meet
      case rel => exact ⟨_, (true), sQ, H', ⟨by have := HJ7.out; first | omega | exact Nat.le_refl _⟩, ⟨bQ⟩⟩
    case rest =>
     clear HC19
     try clear c1
     try clear c2
     try clear p2
     try clear c3
     try clear c4
     try clear c5
     try clear c7
     try clear c8
     try clear c9
     try clear c10
     try clear c11
     try clear c12
     try clear c12b0
     try clear c12b1
     try clear c14
     try clear c25
     try clear c26
     try clear c26b0
     try clear c26b1
     try clear c28
     try clear p2
     obtain ⟨kq, x83_18, rfl, HA, HJ18, HB⟩ := hcut
     cases kq with
     | zero => exact absurd HA.out (by simp [beryllaw20_DiskWrites.j1])
     | succ kj18 =>
      have H := HA.out
      clear HA
      simp only [beryllaw20_DiskWrites.j1] at H
      by_cases c41 : x83_18 = true
      ·subst c41
       rw [if_pos rfl] at H
       obtain rfl := Option.some.inj H
       go_wp2
       go_ret
       exact ⟨eQ, bQ⟩
      ·replace c41 := Bool.eq_false_iff.mpr c41
       subst c41
       rw [if_neg (show ¬ (false = true) by decide)] at H
       replace H := Option.bind_eq_some_iff.mp H
       obtain ⟨⟨t397, t398⟩, A420, H⟩ := H
       try dsimp only at H
       have A42 := Aside0.mk A420
       clear A420
       replace H := Option.bind_eq_some_iff.mp H
       obtain ⟨⟨t401, t402⟩, A430, H⟩ := H
       try dsimp only at H
       have A43 := Aside0.mk A430
       clear A430
       replace H := Option.bind_eq_some_iff.mp H
       obtain ⟨⟨t405, t406⟩, A440, H⟩ := H
       try dsimp only at H
       have A44 := Aside0.mk A440
       clear A440
       replace H := Option.bind_eq_some_iff.mp H
       obtain ⟨⟨t409, t410⟩, A450, H⟩ := H
       try dsimp only at H
       have A45 := Aside0.mk A450
       clear A450
       have HC46 := Aside0.mk H
       clear H
       go_upto_region 14 with (first | ((with_reducible refine gate_callee (f := 12) rfl ?_); refine goesL_ (some 87) rfl rfl Tryz.func12 (by kernel_rfl) rfl #[.slice A0 l0.length c0, .slice A2 l2.length c2] rfl aQ ?_; (with_reducible refine (disk_Drop.calls _ _ l0 _ _ l2 t397 t398 _ ?side1 ?side2 ?side3 ?side4 A42.out).mono ?_); (case side1 => exact cQ (Kd.C_below HR0.out HB.out)); (case side2 => exact HC0.out); (case side3 => exact cQ (Kd.C_below HR2.out HB.out)); (case side4 => exact HC2.out); rintro e w47 ⟨v399, rfl, ho0, hb⟩; refine ⟨_, rfl, ?_⟩; have n0_ := Aside0.mk (Kd.R_lower ho0 (below_size bQ)); have n1_ := Aside0.mk (below_step bQ hb); clear HB; have HO400 := n0_; have HB := n1_; clear n0_ n1_; (try clear hb); (try clear hb2); (try clear hk); (try clear hi); (try clear ho0)) | ((with_reducible refine gate_callee (f := 13) rfl ?_); refine goesL_ (some 93) rfl rfl Tryz.func13 (by kernel_rfl) rfl #[.slice A0 l0.length c0, .slice A2 l2.length c2] rfl aQ ?_; (with_reducible refine (berylref20_Drop.calls _ _ l0 _ _ l2 t401 t402 _ ?side1 ?side2 ?side3 ?side4 A43.out).mono ?_); (case side1 => exact cQ (Kd.C_below HR0.out HB.out)); (case side2 => exact HC0.out); (case side3 => exact cQ (Kd.C_below HR2.out HB.out)); (case side4 => exact HC2.out); rintro e w48 ⟨v403, rfl, ho0, hb⟩; refine ⟨_, rfl, ?_⟩; have n0_ := Aside0.mk (Kd.R_elder' (rQ HO400.out) (Kd.R_base ho0) hb); have n1_ := Aside0.mk (Kd.R_lower (Kd.R_new' ho0 (Kd.R_lt (rQ HO400.out))) (below_size bQ)); have n2_ := Aside0.mk (below_step bQ hb); clear HO400; clear HB; have HO400 := n0_; have HO404 := n1_; have HB := n2_; clear n0_ n1_ n2_; (try clear hb); (try clear hb2); (try clear hk); (try clear hi); (try clear ho0)) | ((with_reducible refine gate_callee (f := 14) rfl ?_); refine goesL_ (some 99) rfl rfl Tryz.func14 (by kernel_rfl) rfl #[.slice A0 l0.length c0, .slice A3 l3.length c3] rfl aQ ?_; (with_reducible refine (disk_Do.calls _ _ l0 _ _ l3 t405 t406 _ ?side1 ?side2 ?side3 ?side4 A44.out).mono ?_); (case side1 => exact cQ (Kd.C_below HR0.out HB.out)); (case side2 => exact HC0.out); (case side3 => exact cQ (Kd.C_below HR3.out HB.out)); (case side4 => exact HC3.out); rintro e w49 ⟨v407, rfl, ho0, hb⟩; refine ⟨_, rfl, ?_⟩; have n0_ := Aside0.mk (Kd.R_elder' (rQ HO400.out) (Kd.R_base ho0) hb); have n1_ := Aside0.mk (Kd.R_elder' (rQ HO404.out) (Kd.R_base ho0) hb); have n2_ := Aside0.mk (Kd.R_lower ho0 (below_size bQ)); have n3_ := Aside0.mk (below_step bQ hb); clear HO400; clear HO404; clear HB; have HO400 := n0_; have HO404 := n1_; have HO408 := n2_; have HB := n3_; clear n0_ n1_ n2_ n3_; (try clear hb); (try clear hb2); (try clear hk); (try clear hi); (try clear ho0)) | ((with_reducible refine gate_callee (f := 15) rfl ?_); refine goesL_ (some 105) rfl rfl Tryz.func15 (by kernel_rfl) rfl #[.slice A0 l0.length c0, .slice A3 l3.length c3] rfl aQ ?_; (with_reducible refine (berylref20_Do.calls kj18 _ _ l0 _ _ l3 t409 t410 _ ?side1 ?side2 ?side3 ?side4 A45.out).mono ?_); (case side1 => exact cQ (Kd.C_below HR0.out HB.out)); (case side2 => exact HC0.out); (case side3 => exact cQ (Kd.C_below HR3.out HB.out)); (case side4 => exact HC3.out); rintro e w50 ⟨v411, rfl, ho0, hb⟩; refine ⟨_, rfl, ?_⟩; have n0_ := Aside0.mk (Kd.R_elder' (rQ HO400.out) (Kd.R_base ho0) hb); have n1_ := Aside0.mk (Kd.R_elder' (rQ HO404.out) (Kd.R_base ho0) hb); have n2_ := Aside0.mk (Kd.R_elder' (rQ HO408.out) (Kd.R_base ho0) hb); have n3_ := Aside0.mk (Kd.R_lower (Kd.R_new' ho0 (Kd.R_lt (rQ HO408.out))) (below_size bQ)); have n4_ := Aside0.mk (below_step bQ hb); clear HO400; clear HO404; clear HO408; clear HB; have HO400 := n0_; have HO404 := n1_; have HO408 := n2_; have HO412 := n3_; have HB := n4_; clear n0_ n1_ n2_ n3_ n4_; (try clear hb); (try clear hb2); (try clear hk); (try clear hi); (try clear ho0)))
       (try simp only [Act.put, List.setIfInBounds_toArray, List.set_cons_zero, List.set_cons_succ])
       go_cut [128] (fun v128 wc => ∃ (kq : Nat) (x128_45 : Bool), v128 = .bool x128_45 ∧ Aside0 (beryllaw20_DiskWrites.j2 kq l0 l3 a4 a5 t376 x128_45 = some r) ∧ Aside0 (kq ≤ kj18) ∧ Aside0 (Below w.heap.size w wc))
       case first =>
        have H := HC46.out
        clear HC46
        replace H := Option.bind_eq_some_iff.mp H
        obtain ⟨t413, A510, H⟩ := H
        have A51 := Aside0.mk A510
        clear A510
        by_cases c52 : t413 = true
        ·subst c52
         rw [if_pos rfl] at H
         by_cases c53 : t398 = t402
         ·rw [if_pos c53] at H
          have c53b0 : (t398 == t402) = true := beq_iff_eq.mpr c53
          have c53b1 : (t398 != t402) = false := bne_eq_false_iff_eq.mpr c53
          clear c53
          (first | rw [c53b0] | (simp only [i64_w, i32_w]; rw [c53b0]) | skip)
          by_cases c54 : (strOfNums t405).toList = (strOfNums t409).toList
          ·rw [if_pos c54] at H
           have c54b0 : ((strOfNums t405).toList == (strOfNums t409).toList) = true := beq_iff_eq.mpr c54
           have c54b1 : ((strOfNums t405).toList != (strOfNums t409).toList) = false := bne_eq_false_iff_eq.mpr c54
           clear c54
           have H' := Aside0.mk H
           clear H
           obtain ⟨Ao55, co55, eo55⟩ := Kd.R_slice HO400.out
           subst eo55
           obtain ⟨Ao56, co56, eo56⟩ := Kd.R_slice HO404.out
           subst eo56
           go_wp2_with (first | ((with_reducible refine gate_callee (f := 11) rfl ?_); refine goesL_ (some 110) rfl rfl Tryz.func11 (by kernel_rfl) rfl #[.slice Ao55 t397.length co55, .slice Ao56 t401.length co56] rfl aQ ?_; (with_reducible refine (berylref20_SamePuts.calls kj18 _ _ t397 _ _ t401 true _ ?side1 ?side2 ?side3 ?side4 A51.out).mono ?_); (case side1 => exact cQ (Kd.R_reads' HO400.out).2.2); (case side2 => exact (Kd.R_reads' HO400.out).2.1); (case side3 => exact cQ (Kd.R_reads' HO404.out).2.2); (case side4 => exact (Kd.R_reads' HO404.out).2.1); rintro e w' ⟨rfl, ⟨nd, rfl⟩⟩; refine ⟨_, rfl, ?_⟩; have hcv57 := own_string (P := Tryz.prog) Tryz.underlying22 Tryz.underlying5 Tryz.underlying9 (Kd.own_of_R HO408.out); have hcv57d := fun n_ : Nat => own_string (P := Tryz.prog) Tryz.underlying22 Tryz.underlying5 Tryz.underlying9 (pw_own_drewN (Kd.own_of_R HO408.out) n_); have hcv57e := fun n_ m_ : Nat => own_string (P := Tryz.prog) Tryz.underlying22 Tryz.underlying5 Tryz.underlying9 (pw_own_drewN (pw_own_drewN (Kd.own_of_R HO408.out) n_) m_); have hcv58 := own_string (P := Tryz.prog) Tryz.underlying22 Tryz.underlying5 Tryz.underlying9 (Kd.own_of_R HO412.out); have hcv58d := fun n_ : Nat => own_string (P := Tryz.prog) Tryz.underlying22 Tryz.underlying5 Tryz.underlying9 (pw_own_drewN (Kd.own_of_R HO412.out) n_); have hcv58e := fun n_ m_ : Nat => own_string (P := Tryz.prog) Tryz.underlying22 Tryz.underlying5 Tryz.underlying9 (pw_own_drewN (pw_own_drewN (Kd.own_of_R HO412.out) n_) m_)))
           go_meet
           case rel => exact ⟨_, ((t406 != t410)), sQ, H', ⟨by have := HJ7.out; have := HJ18.out; first | omega | exact Nat.le_refl _⟩, ⟨bQ⟩⟩
          ·rw [if_neg c54] at H
           have c54b0 : ((strOfNums t405).toList == (strOfNums t409).toList) = false := beq_eq_false_iff_ne.mpr c54
           have c54b1 : ((strOfNums t405).toList != (strOfNums t409).toList) = true := bne_iff_ne.mpr c54
           have H' := Aside0.mk H
           clear H
           obtain ⟨Ao59, co59, eo59⟩ := Kd.R_slice HO400.out
           subst eo59
           obtain ⟨Ao60, co60, eo60⟩ := Kd.R_slice HO404.out
           subst eo60
           go_wp2_with (first | ((with_reducible refine gate_callee (f := 11) rfl ?_); refine goesL_ (some 110) rfl rfl Tryz.func11 (by kernel_rfl) rfl #[.slice Ao59 t397.length co59, .slice Ao60 t401.length co60] rfl aQ ?_; (with_reducible refine (berylref20_SamePuts.calls kj18 _ _ t397 _ _ t401 true _ ?side1 ?side2 ?side3 ?side4 A51.out).mono ?_); (case side1 => exact cQ (Kd.R_reads' HO400.out).2.2); (case side2 => exact (Kd.R_reads' HO400.out).2.1); (case side3 => exact cQ (Kd.R_reads' HO404.out).2.2); (case side4 => exact (Kd.R_reads' HO404.out).2.1); rintro e w' ⟨rfl, ⟨nd, rfl⟩⟩; refine ⟨_, rfl, ?_⟩; have hcv61 := own_string (P := Tryz.prog) Tryz.underlying22 Tryz.underlying5 Tryz.underlying9 (Kd.own_of_R HO408.out); have hcv61d := fun n_ : Nat => own_string (P := Tryz.prog) Tryz.underlying22 Tryz.underlying5 Tryz.underlying9 (pw_own_drewN (Kd.own_of_R HO408.out) n_); have hcv61e := fun n_ m_ : Nat => own_string (P := Tryz.prog) Tryz.underlying22 Tryz.underlying5 Tryz.underlying9 (pw_own_drewN (pw_own_drewN (Kd.own_of_R HO408.out) n_) m_); have hcv62 := own_string (P := Tryz.prog) Tryz.underlying22 Tryz.underlying5 Tryz.underlying9 (Kd.own_of_R HO412.out); have hcv62d := fun n_ : Nat => own_string (P := Tryz.prog) Tryz.underlying22 Tryz.underlying5 Tryz.underlying9 (pw_own_drewN (Kd.own_of_R HO412.out) n_); have hcv62e := fun n_ m_ : Nat => own_string (P := Tryz.prog) Tryz.underlying22 Tryz.underlying5 Tryz.underlying9 (pw_own_drewN (pw_own_drewN (Kd.own_of_R HO412.out) n_) m_)))
           go_meet
           case rel => exact ⟨_, (true), sQ, H', ⟨by have := HJ7.out; have := HJ18.out; first | omega | exact Nat.le_refl _⟩, ⟨bQ⟩⟩
         ·rw [if_neg c53] at H
          have c53b0 : (t398 == t402) = false := beq_eq_false_iff_ne.mpr c53
          have c53b1 : (t398 != t402) = true := bne_iff_ne.mpr c53
          (first | rw [c53b0] | (simp only [i64_w, i32_w]; rw [c53b0]) | skip)
          have H' := Aside0.mk H
          clear H
          obtain ⟨Ao63, co63, eo63⟩ := Kd.R_slice HO400.out
          subst eo63
          obtain ⟨Ao64, co64, eo64⟩ := Kd.R_slice HO404.out
          subst eo64
          go_wp2_with (first | ((with_reducible refine gate_callee (f := 11) rfl ?_); refine goesL_ (some 110) rfl rfl Tryz.func11 (by kernel_rfl) rfl #[.slice Ao63 t397.length co63, .slice Ao64 t401.length co64] rfl aQ ?_; (with_reducible refine (berylref20_SamePuts.calls kj18 _ _ t397 _ _ t401 true _ ?side1 ?side2 ?side3 ?side4 A51.out).mono ?_); (case side1 => exact cQ (Kd.R_reads' HO400.out).2.2); (case side2 => exact (Kd.R_reads' HO400.out).2.1); (case side3 => exact cQ (Kd.R_reads' HO404.out).2.2); (case side4 => exact (Kd.R_reads' HO404.out).2.1); rintro e w' ⟨rfl, ⟨nd, rfl⟩⟩; refine ⟨_, rfl, ?_⟩))
          go_meet
          case rel => exact ⟨_, (true), sQ, H', ⟨by have := HJ7.out; have := HJ18.out; first | omega | exact Nat.le_refl _⟩, ⟨bQ⟩⟩
        ·replace c52 := Bool.eq_false_iff.mpr c52
         subst c52
         rw [if_neg (show ¬ (false = true) by decide)] at H
         have H' := Aside0.mk H
         clear H
         obtain ⟨Ao65, co65, eo65⟩ := Kd.R_slice HO400.out
         subst eo65
         obtain ⟨Ao66, co66, eo66⟩ := Kd.R_slice HO404.out
         subst eo66
         go_wp2_with (first | ((with_reducible refine gate_callee (f := 11) rfl ?_); refine goesL_ (some 110) rfl rfl Tryz.func11 (by kernel_rfl) rfl #[.slice Ao65 t397.length co65, .slice Ao66 t401.length co66] rfl aQ ?_; (with_reducible refine (berylref20_SamePuts.calls kj18 _ _ t397 _ _ t401 false _ ?side1 ?side2 ?side3 ?side4 A51.out).mono ?_); (case side1 => exact cQ (Kd.R_reads' HO400.out).2.2); (case side2 => exact (Kd.R_reads' HO400.out).2.1); (case side3 => exact cQ (Kd.R_reads' HO404.out).2.2); (case side4 => exact (Kd.R_reads' HO404.out).2.1); rintro e w' ⟨rfl, ⟨nd, rfl⟩⟩; refine ⟨_, rfl, ?_⟩))
         go_meet
         case rel => exact ⟨_, (true), sQ, H', ⟨by have := HJ7.out; have := HJ18.out; first | omega | exact Nat.le_refl _⟩, ⟨bQ⟩⟩
       case rest =>
        clear HC46
        try clear c1
        try clear c2
        try clear p2
        try clear c3
        try clear c4
        try clear c5
        try clear hcv5
        try clear hcv6
        try clear c7
        try clear c8
        try clear c9
        try clear c10
        try clear c11
        try clear c12
        try clear c12b0
        try clear c12b1
        try clear c13
        try clear c14
        try clear c15
        try clear c25
        try clear c26
        try clear c26b0
        try clear c26b1
        try clear c28
        try clear c41
        try clear c52
        try clear c53
        try clear c53b0
        try clear c53b1
        try clear c54
        try clear c54b0
        try clear c54b1
        try clear hcv57
        try clear hcv58
        try clear hcv61
        try clear hcv62
        try clear p2
        obtain ⟨kq, x128_45, rfl, HA, HJ45, HB⟩ := hcut
        cases kq with
        | zero => exact absurd HA.out (by simp [beryllaw20_DiskWrites.j2])
        | succ kj45 =>
         have H := HA.out
         clear HA
         simp only [beryllaw20_DiskWrites.j2] at H
         by_cases c67 : x128_45 = true
         ·subst c67
          rw [if_pos rfl] at H
          obtain rfl := Option.some.inj H
          go_wp2
          go_ret
          exact ⟨eQ, bQ⟩
         ·replace c67 := Bool.eq_false_iff.mpr c67
          subst c67
          rw [if_neg (show ¬ (false = true) by decide)] at H
          replace H := Option.bind_eq_some_iff.mp H
          obtain ⟨⟨t414, t415⟩, A680, H⟩ := H
          try dsimp only at H
          have A68 := Aside0.mk A680
          clear A680
          replace H := Option.bind_eq_some_iff.mp H
          obtain ⟨⟨t418, t419⟩, A690, H⟩ := H
          try dsimp only at H
          have A69 := Aside0.mk A690
          clear A690
          by_cases c70 : t376 = true
          ·subst c70
           rw [if_pos rfl] at H
           by_cases c71 : (strOfNums t414).toList = (strOfNums t418).toList
           ·rw [if_pos c71] at H
            have c71b0 : ((strOfNums t414).toList == (strOfNums t418).toList) = true := beq_iff_eq.mpr c71
            have c71b1 : ((strOfNums t414).toList != (strOfNums t418).toList) = false := bne_eq_false_iff_eq.mpr c71
            clear c71
            obtain rfl := Option.some.inj H
            go_wp2_with (first | ((with_reducible refine gate_callee (f := 16) rfl ?_); refine goesL_ (some 134) rfl rfl Tryz.func16 (by kernel_rfl) rfl #[.slice A0 l0.length c0, .slice A3 l3.length c3, .int .i64 a4, .int .i64 a5] rfl aQ ?_; (with_reducible refine (disk_Torn.calls _ _ l0 _ _ l3 a4 a5 t414 t415 _ ?side1 ?side2 ?side3 ?side4 A68.out).mono ?_); (case side1 => exact cQ (Kd.C_below HR0.out HB.out)); (case side2 => exact HC0.out); (case side3 => exact cQ (Kd.C_below HR3.out HB.out)); (case side4 => exact HC3.out); rintro e w72 ⟨v416, rfl, ho0, hb⟩; refine ⟨_, rfl, ?_⟩; have n0_ := Aside0.mk (Kd.R_lower ho0 (below_size bQ)); have n1_ := Aside0.mk (below_step bQ hb); clear HB; have HO417 := n0_; have HB := n1_; clear n0_ n1_; (try clear hb); (try clear hb2); (try clear hk); (try clear hi); (try clear ho0)) | ((with_reducible refine gate_callee (f := 17) rfl ?_); refine goesL_ (some 142) rfl rfl Tryz.func17 (by kernel_rfl) rfl #[.slice A0 l0.length c0, .slice A3 l3.length c3, .int .i64 a4, .int .i64 a5] rfl aQ ?_; (with_reducible refine (berylref20_Torn.calls kj45 _ _ l0 _ _ l3 a4 a5 t418 t419 _ ?side1 ?side2 ?side3 ?side4 A69.out).mono ?_); (case side1 => exact cQ (Kd.C_below HR0.out HB.out)); (case side2 => exact HC0.out); (case side3 => exact cQ (Kd.C_below HR3.out HB.out)); (case side4 => exact HC3.out); rintro e w73 ⟨v420, rfl, ho0, hb⟩; refine ⟨_, rfl, ?_⟩; have n0_ := Aside0.mk (Kd.R_elder' (rQ HO417.out) (Kd.R_base ho0) hb); have n1_ := Aside0.mk (Kd.R_lower (Kd.R_new' ho0 (Kd.R_lt (rQ HO417.out))) (below_size bQ)); have n2_ := Aside0.mk (below_step bQ hb); clear HO417; clear HB; have HO417 := n0_; have HO421 := n1_; have HB := n2_; clear n0_ n1_ n2_; (try clear hb); (try clear hb2); (try clear hk); (try clear hi); (try clear ho0); have hcv74 := own_string (P := Tryz.prog) Tryz.underlying22 Tryz.underlying5 Tryz.underlying9 (Kd.own_of_R HO417.out); have hcv74d := fun n_ : Nat => own_string (P := Tryz.prog) Tryz.underlying22 Tryz.underlying5 Tryz.underlying9 (pw_own_drewN (Kd.own_of_R HO417.out) n_); have hcv74e := fun n_ m_ : Nat => own_string (P := Tryz.prog) Tryz.underlying22 Tryz.underlying5 Tryz.underlying9 (pw_own_drewN (pw_own_drewN (Kd.own_of_R HO417.out) n_) m_); have hcv75 := own_string (P := Tryz.prog) Tryz.underlying22 Tryz.underlying5 Tryz.underlying9 (Kd.own_of_R HO421.out); have hcv75d := fun n_ : Nat => own_string (P := Tryz.prog) Tryz.underlying22 Tryz.underlying5 Tryz.underlying9 (pw_own_drewN (Kd.own_of_R HO421.out) n_); have hcv75e := fun n_ m_ : Nat => own_string (P := Tryz.prog) Tryz.underlying22 Tryz.underlying5 Tryz.underlying9 (pw_own_drewN (pw_own_drewN (Kd.own_of_R HO421.out) n_) m_)))
            go_ret
            exact ⟨eQ, bQ⟩
           ·rw [if_neg c71] at H
            have c71b0 : ((strOfNums t414).toList == (strOfNums t418).toList) = false := beq_eq_false_iff_ne.mpr c71
            have c71b1 : ((strOfNums t414).toList != (strOfNums t418).toList) = true := bne_iff_ne.mpr c71
            obtain rfl := Option.some.inj H
            go_wp2_with (first | ((with_reducible refine gate_callee (f := 16) rfl ?_); refine goesL_ (some 134) rfl rfl Tryz.func16 (by kernel_rfl) rfl #[.slice A0 l0.length c0, .slice A3 l3.length c3, .int .i64 a4, .int .i64 a5] rfl aQ ?_; (with_reducible refine (disk_Torn.calls _ _ l0 _ _ l3 a4 a5 t414 t415 _ ?side1 ?side2 ?side3 ?side4 A68.out).mono ?_); (case side1 => exact cQ (Kd.C_below HR0.out HB.out)); (case side2 => exact HC0.out); (case side3 => exact cQ (Kd.C_below HR3.out HB.out)); (case side4 => exact HC3.out); rintro e w76 ⟨v416, rfl, ho0, hb⟩; refine ⟨_, rfl, ?_⟩; have n0_ := Aside0.mk (Kd.R_lower ho0 (below_size bQ)); have n1_ := Aside0.mk (below_step bQ hb); clear HB; have HO417 := n0_; have HB := n1_; clear n0_ n1_; (try clear hb); (try clear hb2); (try clear hk); (try clear hi); (try clear ho0)) | ((with_reducible refine gate_callee (f := 17) rfl ?_); refine goesL_ (some 142) rfl rfl Tryz.func17 (by kernel_rfl) rfl #[.slice A0 l0.length c0, .slice A3 l3.length c3, .int .i64 a4, .int .i64 a5] rfl aQ ?_; (with_reducible refine (berylref20_Torn.calls kj45 _ _ l0 _ _ l3 a4 a5 t418 t419 _ ?side1 ?side2 ?side3 ?side4 A69.out).mono ?_); (case side1 => exact cQ (Kd.C_below HR0.out HB.out)); (case side2 => exact HC0.out); (case side3 => exact cQ (Kd.C_below HR3.out HB.out)); (case side4 => exact HC3.out); rintro e w77 ⟨v420, rfl, ho0, hb⟩; refine ⟨_, rfl, ?_⟩; have n0_ := Aside0.mk (Kd.R_elder' (rQ HO417.out) (Kd.R_base ho0) hb); have n1_ := Aside0.mk (Kd.R_lower (Kd.R_new' ho0 (Kd.R_lt (rQ HO417.out))) (below_size bQ)); have n2_ := Aside0.mk (below_step bQ hb); clear HO417; clear HB; have HO417 := n0_; have HO421 := n1_; have HB := n2_; clear n0_ n1_ n2_; (try clear hb); (try clear hb2); (try clear hk); (try clear hi); (try clear ho0); have hcv78 := own_string (P := Tryz.prog) Tryz.underlying22 Tryz.underlying5 Tryz.underlying9 (Kd.own_of_R HO417.out); have hcv78d := fun n_ : Nat => own_string (P := Tryz.prog) Tryz.underlying22 Tryz.underlying5 Tryz.underlying9 (pw_own_drewN (Kd.own_of_R HO417.out) n_); have hcv78e := fun n_ m_ : Nat => own_string (P := Tryz.prog) Tryz.underlying22 Tryz.underlying5 Tryz.underlying9 (pw_own_drewN (pw_own_drewN (Kd.own_of_R HO417.out) n_) m_); have hcv79 := own_string (P := Tryz.prog) Tryz.underlying22 Tryz.underlying5 Tryz.underlying9 (Kd.own_of_R HO421.out); have hcv79d := fun n_ : Nat => own_string (P := Tryz.prog) Tryz.underlying22 Tryz.underlying5 Tryz.underlying9 (pw_own_drewN (Kd.own_of_R HO421.out) n_); have hcv79e := fun n_ m_ : Nat => own_string (P := Tryz.prog) Tryz.underlying22 Tryz.underlying5 Tryz.underlying9 (pw_own_drewN (pw_own_drewN (Kd.own_of_R HO421.out) n_) m_)))
            go_ret
            exact ⟨eQ, bQ⟩
          ·replace c70 := Bool.eq_false_iff.mpr c70
           subst c70
           rw [if_neg (show ¬ (false = true) by decide)] at H
           obtain rfl := Option.some.inj H
           go_wp2_with (first | ((with_reducible refine gate_callee (f := 16) rfl ?_); refine goesL_ (some 134) rfl rfl Tryz.func16 (by kernel_rfl) rfl #[.slice A0 l0.length c0, .slice A3 l3.length c3, .int .i64 a4, .int .i64 a5] rfl aQ ?_; (with_reducible refine (disk_Torn.calls _ _ l0 _ _ l3 a4 a5 t414 t415 _ ?side1 ?side2 ?side3 ?side4 A68.out).mono ?_); (case side1 => exact cQ (Kd.C_below HR0.out HB.out)); (case side2 => exact HC0.out); (case side3 => exact cQ (Kd.C_below HR3.out HB.out)); (case side4 => exact HC3.out); rintro e w80 ⟨v416, rfl, ho0, hb⟩; refine ⟨_, rfl, ?_⟩; have n0_ := Aside0.mk (Kd.R_lower ho0 (below_size bQ)); have n1_ := Aside0.mk (below_step bQ hb); clear HB; have HO417 := n0_; have HB := n1_; clear n0_ n1_; (try clear hb); (try clear hb2); (try clear hk); (try clear hi); (try clear ho0)) | ((with_reducible refine gate_callee (f := 17) rfl ?_); refine goesL_ (some 142) rfl rfl Tryz.func17 (by kernel_rfl) rfl #[.slice A0 l0.length c0, .slice A3 l3.length c3, .int .i64 a4, .int .i64 a5] rfl aQ ?_; (with_reducible refine (berylref20_Torn.calls kj45 _ _ l0 _ _ l3 a4 a5 t418 t419 _ ?side1 ?side2 ?side3 ?side4 A69.out).mono ?_); (case side1 => exact cQ (Kd.C_below HR0.out HB.out)); (case side2 => exact HC0.out); (case side3 => exact cQ (Kd.C_below HR3.out HB.out)); (case side4 => exact HC3.out); rintro e w81 ⟨v420, rfl, ho0, hb⟩; refine ⟨_, rfl, ?_⟩; have n0_ := Aside0.mk (Kd.R_elder' (rQ HO417.out) (Kd.R_base ho0) hb); have n1_ := Aside0.mk (Kd.R_lower (Kd.R_new' ho0 (Kd.R_lt (rQ HO417.out))) (below_size bQ)); have n2_ := Aside0.mk (below_step bQ hb); clear HO417; clear HB; have HO417 := n0_; have HO421 := n1_; have HB := n2_; clear n0_ n1_ n2_; (try clear hb); (try clear hb2); (try clear hk); (try clear hi); (try clear ho0)))
           go_ret
           exact ⟨eQ, bQ⟩
end Go.Proofs.YtcdpkdehogcjnaaGreat.Print
