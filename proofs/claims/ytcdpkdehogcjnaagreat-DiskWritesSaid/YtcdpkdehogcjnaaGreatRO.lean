import Derived.Test.YtcdpkdehogcjnaaGreatR0
import Derived.Test.YtcdpkdehogcjnaaGreatR6
import Derived.Test.YtcdpkdehogcjnaaGreatRL
set_option linter.unusedVariables false
set_option linter.unusedSimpArgs false
namespace Go.Proofs.YtcdpkdehogcjnaaGreat.Print
open Go.RowKit Go.Proofs.YtcdpkdehogcjnaaGreatW.PrintWords Go.Proofs.YtcdpkdehogcjnaaGreatW.PrintLast Go.Proofs.YtcdpkdehogcjnaaGreatW.PrintMore
attribute [local go_sem] max2_int min2_int max_two min_two max_three min_three max_four min_four
mutual
def berylref20_Torn.j0 : Nat → List Int → List (S42) → Int → Int → Bool → Option (List Int × Int)
 | 0, _, _, _, _, _ => none
 | k + 1, x0, x1, x2, x3, x58 => if x58 = true then (some (([] : List Int), 201)) else ((some (([] : List Int) : List Int)).bind fun y361 => (if y361.length + x0.length < 140737488355328 then (berylref20_Torn.l0 k x1 x2 x3 (y361 ++ x0) 0) else (none)))
def berylref20_Torn.l0 : Nat → List (S42) → Int → Int → List Int → Int → Option (List Int × Int)
 | 0, _, _, _, _, _ => none
 | k + 1, x1, x2, x3, x10, x11 => if x11 < (x1.length : Int) then (berylref20_Torn.j2 k x1 x2 x3 x10 x11 (decide (x11 ≤ x2))) else (berylref20_Torn.j2 k x1 x2 x3 x10 x11 false)
def berylref20_Torn.j2 : Nat → List (S42) → Int → Int → List Int → Int → Bool → Option (List Int × Int)
 | 0, _, _, _, _, _, _ => none
 | k + 1, x1, x2, x3, x10, x11, x70 => if x70 = true then (if 0 ≤ x11 then (if x11 < (x1.length : Int) then (if x11 = x2 then (berylref20_Torn.j3 k x1 x2 x3 x10 x11 x3) else (berylref20_Torn.j3 k x1 x2 x3 x10 x11 (((rd_T42 x1 x11).f1).length : Int))) else (none)) else (none)) else (some (x10, 0))
def berylref20_Torn.j3 : Nat → List (S42) → Int → Int → List Int → Int → Int → Option (List Int × Int)
 | 0, _, _, _, _, _, _ => none
 | k + 1, x1, x2, x3, x10, x11, x12 => berylref20_Torn.l1 k x1 x2 x3 x10 x11 x12 0
def berylref20_Torn.l1 : Nat → List (S42) → Int → Int → List Int → Int → Int → Int → Option (List Int × Int)
 | 0, _, _, _, _, _, _, _ => none
 | k + 1, x1, x2, x3, x10, x11, x12, x13 => if x13 < x12 then (if 0 ≤ x11 then (if x11 < (x1.length : Int) then (if 0 ≤ x13 then (if x13 < (((rd_T42 x1 x11).f1).length : Int) then (if 0 ≤ (wrap64 ((wrap64 (((rd_T42 x1 x11).f0) * 64)) + x13)) then (if (wrap64 ((wrap64 (((rd_T42 x1 x11).f0) * 64)) + x13)) < (x10.length : Int) then (berylref20_Torn.l1 k x1 x2 x3 (x10.set ((wrap64 ((wrap64 (((rd_T42 x1 x11).f0) * 64)) + x13)) : Int).toNat (rd ((rd_T42 x1 x11).f1) x13)) x11 x12 (wrap64 (x13 + 1))) else (none)) else (none)) else (none)) else (none)) else (none)) else (none)) else (berylref20_Torn.l0 k x1 x2 x3 x10 (wrap64 (x11 + 1)))
end
def berylref20_Torn.f (k : Nat) (l0 : List Int) (l1 : List (S42)) (a2 : Int) (a3 : Int) : Option (List Int × Int) := (berylref20_blocks.f l0).bind fun t357 => (if t357 = 0 then (some (([] : List Int), 200)) else ((berylref20_fine.f l0 l1).bind fun t358 => (if t358 = true then (if a2 < 0 then (berylref20_Torn.j0 k l0 l1 a2 a3 true) else (if a2 > (l1.length : Int) then (berylref20_Torn.j0 k l0 l1 a2 a3 true) else (if a3 < 0 then (berylref20_Torn.j0 k l0 l1 a2 a3 true) else (if a2 = (l1.length : Int) then (if a3 > 0 then (berylref20_Torn.j0 k l0 l1 a2 a3 true) else (if a2 < (l1.length : Int) then (if 0 ≤ a2 then (berylref20_Torn.j0 k l0 l1 a2 a3 (decide (a3 > (((rd_T42 l1 a2).f1).length : Int)))) else (none)) else (berylref20_Torn.j0 k l0 l1 a2 a3 false))) else (if a2 < (l1.length : Int) then (if 0 ≤ a2 then (berylref20_Torn.j0 k l0 l1 a2 a3 (decide (a3 > (((rd_T42 l1 a2).f1).length : Int)))) else (none)) else (berylref20_Torn.j0 k l0 l1 a2 a3 false)))))) else (some (([] : List Int), 1)))))
theorem berylref20_Torn.mono_l : ∀ k, (∀ y0 y1 y2 y3 y4, LeO (berylref20_Torn.j0 k y0 y1 y2 y3 y4) (berylref20_Torn.j0 (k + 1) y0 y1 y2 y3 y4)) ∧ (∀ y0 y1 y2 y3 y4, LeO (berylref20_Torn.l0 k y0 y1 y2 y3 y4) (berylref20_Torn.l0 (k + 1) y0 y1 y2 y3 y4)) ∧ (∀ y0 y1 y2 y3 y4 y5, LeO (berylref20_Torn.j2 k y0 y1 y2 y3 y4 y5) (berylref20_Torn.j2 (k + 1) y0 y1 y2 y3 y4 y5)) ∧ (∀ y0 y1 y2 y3 y4 y5, LeO (berylref20_Torn.j3 k y0 y1 y2 y3 y4 y5) (berylref20_Torn.j3 (k + 1) y0 y1 y2 y3 y4 y5)) ∧ (∀ y0 y1 y2 y3 y4 y5 y6, LeO (berylref20_Torn.l1 k y0 y1 y2 y3 y4 y5 y6) (berylref20_Torn.l1 (k + 1) y0 y1 y2 y3 y4 y5 y6))
 | 0 => ⟨fun _ _ _ _ _ r h => by simp [berylref20_Torn.j0] at h, fun _ _ _ _ _ r h => by simp [berylref20_Torn.l0] at h, fun _ _ _ _ _ _ r h => by simp [berylref20_Torn.j2] at h, fun _ _ _ _ _ _ r h => by simp [berylref20_Torn.j3] at h, fun _ _ _ _ _ _ _ r h => by simp [berylref20_Torn.l1] at h⟩
 | k + 1 => by
  obtain ⟨ih0, ih1, ih2, ih3, ih4⟩ := berylref20_Torn.mono_l k
  refine ⟨?_, ?_, ?_, ?_, ?_⟩
  ·intro y0 y1 y2 y3 y4
   unfold berylref20_Torn.j0
   repeat' first
   | (with_reducible exact ih0 _ _ _ _ _)
   | (with_reducible exact ih1 _ _ _ _ _)
   | (with_reducible exact ih2 _ _ _ _ _ _)
   | (with_reducible exact ih3 _ _ _ _ _ _)
   | (with_reducible exact ih4 _ _ _ _ _ _ _)
   | (with_reducible exact LeO.refl _)
   | (with_reducible exact LeO.none _)
   | (with_reducible refine LeO.ite ?_ ?_)
   | (with_reducible refine LeO.bind ?_ (fun _ => ?_))
   | exact ih0 _ _ _ _ _
   | exact ih1 _ _ _ _ _
   | exact ih2 _ _ _ _ _ _
   | exact ih3 _ _ _ _ _ _
   | exact ih4 _ _ _ _ _ _ _
   | exact LeO.none _
   | refine LeO.ite ?_ ?_
   | refine LeO.bind ?_ (fun _ => ?_)
  ·intro y0 y1 y2 y3 y4
   unfold berylref20_Torn.l0
   repeat' first
   | (with_reducible exact ih0 _ _ _ _ _)
   | (with_reducible exact ih1 _ _ _ _ _)
   | (with_reducible exact ih2 _ _ _ _ _ _)
   | (with_reducible exact ih3 _ _ _ _ _ _)
   | (with_reducible exact ih4 _ _ _ _ _ _ _)
   | (with_reducible exact LeO.refl _)
   | (with_reducible exact LeO.none _)
   | (with_reducible refine LeO.ite ?_ ?_)
   | (with_reducible refine LeO.bind ?_ (fun _ => ?_))
   | exact ih0 _ _ _ _ _
   | exact ih1 _ _ _ _ _
   | exact ih2 _ _ _ _ _ _
   | exact ih3 _ _ _ _ _ _
   | exact ih4 _ _ _ _ _ _ _
   | exact LeO.none _
   | refine LeO.ite ?_ ?_
   | refine LeO.bind ?_ (fun _ => ?_)
  ·intro y0 y1 y2 y3 y4 y5
   unfold berylref20_Torn.j2
   repeat' first
   | (with_reducible exact ih0 _ _ _ _ _)
   | (with_reducible exact ih1 _ _ _ _ _)
   | (with_reducible exact ih2 _ _ _ _ _ _)
   | (with_reducible exact ih3 _ _ _ _ _ _)
   | (with_reducible exact ih4 _ _ _ _ _ _ _)
   | (with_reducible exact LeO.refl _)
   | (with_reducible exact LeO.none _)
   | (with_reducible refine LeO.ite ?_ ?_)
   | (with_reducible refine LeO.bind ?_ (fun _ => ?_))
   | exact ih0 _ _ _ _ _
   | exact ih1 _ _ _ _ _
   | exact ih2 _ _ _ _ _ _
   | exact ih3 _ _ _ _ _ _
   | exact ih4 _ _ _ _ _ _ _
   | exact LeO.none _
   | refine LeO.ite ?_ ?_
   | refine LeO.bind ?_ (fun _ => ?_)
  ·intro y0 y1 y2 y3 y4 y5
   unfold berylref20_Torn.j3
   repeat' first
   | (with_reducible exact ih0 _ _ _ _ _)
   | (with_reducible exact ih1 _ _ _ _ _)
   | (with_reducible exact ih2 _ _ _ _ _ _)
   | (with_reducible exact ih3 _ _ _ _ _ _)
   | (with_reducible exact ih4 _ _ _ _ _ _ _)
   | (with_reducible exact LeO.refl _)
   | (with_reducible exact LeO.none _)
   | (with_reducible refine LeO.ite ?_ ?_)
   | (with_reducible refine LeO.bind ?_ (fun _ => ?_))
   | exact ih0 _ _ _ _ _
   | exact ih1 _ _ _ _ _
   | exact ih2 _ _ _ _ _ _
   | exact ih3 _ _ _ _ _ _
   | exact ih4 _ _ _ _ _ _ _
   | exact LeO.none _
   | refine LeO.ite ?_ ?_
   | refine LeO.bind ?_ (fun _ => ?_)
  ·intro y0 y1 y2 y3 y4 y5 y6
   unfold berylref20_Torn.l1
   repeat' first
   | (with_reducible exact ih0 _ _ _ _ _)
   | (with_reducible exact ih1 _ _ _ _ _)
   | (with_reducible exact ih2 _ _ _ _ _ _)
   | (with_reducible exact ih3 _ _ _ _ _ _)
   | (with_reducible exact ih4 _ _ _ _ _ _ _)
   | (with_reducible exact LeO.refl _)
   | (with_reducible exact LeO.none _)
   | (with_reducible refine LeO.ite ?_ ?_)
   | (with_reducible refine LeO.bind ?_ (fun _ => ?_))
   | exact ih0 _ _ _ _ _
   | exact ih1 _ _ _ _ _
   | exact ih2 _ _ _ _ _ _
   | exact ih3 _ _ _ _ _ _
   | exact ih4 _ _ _ _ _ _ _
   | exact LeO.none _
   | refine LeO.ite ?_ ?_
   | refine LeO.bind ?_ (fun _ => ?_)
theorem berylref20_Torn.mono : ∀ a0 a1 a2 a3 k, LeO (berylref20_Torn.f k a0 a1 a2 a3) (berylref20_Torn.f (k + 1) a0 a1 a2 a3) := by
 intro a0 a1 a2 a3 k
 obtain ⟨ih0, ih1, ih2, ih3, ih4⟩ := berylref20_Torn.mono_l k
 unfold berylref20_Torn.f
 repeat' first
   | (with_reducible exact ih0 _ _ _ _ _)
   | (with_reducible exact ih1 _ _ _ _ _)
   | (with_reducible exact ih2 _ _ _ _ _ _)
   | (with_reducible exact ih3 _ _ _ _ _ _)
   | (with_reducible exact ih4 _ _ _ _ _ _ _)
   | (with_reducible exact LeO.refl _)
   | (with_reducible exact LeO.none _)
   | (with_reducible refine LeO.ite ?_ ?_)
   | (with_reducible refine LeO.bind ?_ (fun _ => ?_))
   | exact ih0 _ _ _ _ _
   | exact ih1 _ _ _ _ _
   | exact ih2 _ _ _ _ _ _
   | exact ih3 _ _ _ _ _ _
   | exact ih4 _ _ _ _ _ _ _
   | exact LeO.none _
   | refine LeO.ite ?_ ?_
   | refine LeO.bind ?_ (fun _ => ?_)
def berylref20_Torn.T17 : Bool × List (List Nat × List Nat) := (true, [([], []), ([], []), ([], []), ([1, 2], [1, 2]), ([3], [3]), ([4], [4]), ([5], [5]), ([], []), ([6, 7], [6, 7]), ([], []), ([], []), ([9, 10], [9, 10]), ([11], [11]), ([12], [12]), ([], []), ([13, 14], [13, 14]), ([15], [15]), ([0, 8, 0, 1, 2, 3, 4, 5, 6, 7, 8, 9, 10, 11, 12, 13, 14, 15, 16], [0, 8]), ([17, 16, 0, 1, 2, 3, 4, 5, 6, 7, 8, 9, 10, 11, 12, 13, 14, 15, 16], [16, 17])])
def berylref20_Torn.B17 : List Nat := [0, 0, 0, 6, 14, 30, 62, 0, 254, 0, 0, 1536, 3584, 7680, 0, 32256, 65024, 131071, 262143]
theorem berylref20_Torn.tab17 : rtab .any (opsOf Tryz.f17 17) = berylref20_Torn.T17 := by kernel_rfl
theorem berylref20_Torn.bits17 : waitsOk berylref20_Torn.T17.2 berylref20_Torn.B17 = true := by kernel_rfl
set_option maxHeartbeats 8000000 in
set_option maxRecDepth 100000 in
theorem berylref20_Torn.calls (k : Nat) (A0 : Option Addr) (c0 : Nat) (l0 : List Int) (A1 : Option Addr) (c1 : Nat) (l1 : List (S42)) (a2 : Int) (a3 : Int) (r1 : List Int) (r2 : Int) (w : World) (hr0 : Kd.C (Kd.int .u8) w A0 l0.length l0) (hc0 : l0.length ≤ c0) (hr1 : Kd.C k42 w A1 l1.length l1) (hc1 : l1.length ≤ c1) (h : berylref20_Torn.f k l0 l1 a2 a3 = some (r1, r2)) :
  Calls Tryz.prog 17 #[.slice A0 l0.length c0, .slice A1 l1.length c1, .int .i64 a2, .int .i64 a3] w fun e w' => ∃ v0_ : Value, e = .returned (.tuple #[v0_, .int .i64 r2]) ∧ Kd.R (Kd.int .u8) 5 w' w.heap.size (fun _ => True) v0_ r1 ∧ Below w.heap.size w w' := by
 have HR0 := Aside0.mk hr0
 have HC0 := Aside0.mk hc0
 clear hr0 hc0
 have HR1 := Aside0.mk hr1
 have HC1 := Aside0.mk hc1
 clear hr1 hc1
 have HB := Aside0.mk (Below.refl w.heap.size w)
 have H : ((berylref20_blocks.f l0).bind fun t357 => (if t357 = 0 then (some (([] : List Int), 200)) else ((berylref20_fine.f l0 l1).bind fun t358 => (if t358 = true then (if a2 < 0 then (berylref20_Torn.j0 k l0 l1 a2 a3 true) else (if a2 > (l1.length : Int) then (berylref20_Torn.j0 k l0 l1 a2 a3 true) else (if a3 < 0 then (berylref20_Torn.j0 k l0 l1 a2 a3 true) else (if a2 = (l1.length : Int) then (if a3 > 0 then (berylref20_Torn.j0 k l0 l1 a2 a3 true) else (if a2 < (l1.length : Int) then (if 0 ≤ a2 then (berylref20_Torn.j0 k l0 l1 a2 a3 (decide (a3 > (((rd_T42 l1 a2).f1).length : Int)))) else (none)) else (berylref20_Torn.j0 k l0 l1 a2 a3 false))) else (if a2 < (l1.length : Int) then (if 0 ≤ a2 then (berylref20_Torn.j0 k l0 l1 a2 a3 (decide (a3 > (((rd_T42 l1 a2).f1).length : Int)))) else (none)) else (berylref20_Torn.j0 k l0 l1 a2 a3 false)))))) else (some (([] : List Int), 1)))))) = some (r1, r2) := h
 clear h
 replace H := Option.bind_eq_some_iff.mp H
 obtain ⟨t357, A50, H⟩ := H
 have A5 := Aside0.mk A50
 clear A50
 by_cases c6 : t357 = 0
 ·rw [if_pos c6] at H
  have c6b0 : (t357 == 0) = true := beq_iff_eq.mpr c6
  have c6b1 : (t357 != 0) = false := bne_eq_false_iff_eq.mpr c6
  clear c6
  simp only [Option.some.injEq, Prod.mk.injEq] at H
  obtain ⟨rfl, rfl⟩ := H
  go_enter Tryz.func17, Tryz.ntmps17
  go_wp2_with (first | ((with_reducible refine gate_callee (f := 40) rfl ?_); refine goesL_ (some 15) rfl rfl Tryz.func40 (by kernel_rfl) rfl #[.slice A0 l0.length c0] rfl aQ ?_; (with_reducible refine (berylref20_blocks.calls _ _ l0 t357 _ ?side1 ?side2 A5.out).mono ?_); (case side1 => exact cQ HR0.out); (case side2 => exact HC0.out); rintro e w' ⟨rfl, ⟨nd, rfl⟩⟩; refine ⟨_, rfl, ?_⟩))
  go_ret2
  exact ⟨_, eQ, by first | exact Kd.R_nil _ _ _ _ _ | exact Kd.N_nil _ _ _ _ _ | exact Kd.V_nil _ _ _ _ _ | exact Kd.Q_nil _ _ _ _ _ | exact Kd.S_nil _ _ _ _ _, bQ⟩
 ·rw [if_neg c6] at H
  have c6b0 : (t357 == 0) = false := beq_eq_false_iff_ne.mpr c6
  have c6b1 : (t357 != 0) = true := bne_iff_ne.mpr c6
  replace H := Option.bind_eq_some_iff.mp H
  obtain ⟨t358, A70, H⟩ := H
  have A7 := Aside0.mk A70
  clear A70
  by_cases c8 : t358 = true
  ·subst c8
   rw [if_pos rfl] at H
   have HC9 := Aside0.mk H
   clear H
   go_enter Tryz.func17, Tryz.ntmps17
   go_upto_region 5 with (first | ((with_reducible refine gate_callee (f := 40) rfl ?_); refine goesL_ (some 15) rfl rfl Tryz.func40 (by kernel_rfl) rfl #[.slice A0 l0.length c0] rfl aQ ?_; (with_reducible refine (berylref20_blocks.calls _ _ l0 t357 _ ?side1 ?side2 A5.out).mono ?_); (case side1 => exact cQ HR0.out); (case side2 => exact HC0.out); rintro e w' ⟨rfl, ⟨nd, rfl⟩⟩; refine ⟨_, rfl, ?_⟩) | ((with_reducible refine gate_callee (f := 41) rfl ?_); refine goesL_ (some 19) rfl rfl Tryz.func41 (by kernel_rfl) rfl #[.slice A0 l0.length c0, .slice A1 l1.length c1] rfl aQ ?_; (with_reducible refine (berylref20_fine.calls _ _ l0 _ _ l1 true _ ?side1 ?side2 ?side3 ?side4 A7.out).mono ?_); (case side1 => exact cQ HR0.out); (case side2 => exact HC0.out); (case side3 => exact cQ HR1.out); (case side4 => exact HC1.out); rintro e w' ⟨rfl, ⟨nd, rfl⟩⟩; refine ⟨_, rfl, ?_⟩))
   (try simp only [Act.put, List.setIfInBounds_toArray, List.set_cons_zero, List.set_cons_succ])
   go_cut [58] (fun v58 wc => ∃ (kq : Nat) (x58_8 : Bool), v58 = .bool x58_8 ∧ Aside0 (berylref20_Torn.j0 kq l0 l1 a2 a3 x58_8 = some (r1, r2)) ∧ Aside0 (kq ≤ k) ∧ Aside0 (Below w.heap.size w wc))
   case first =>
    have H := HC9.out
    clear HC9
    by_cases c10 : a2 < 0
    ·rw [if_pos c10] at H
     have c10b0 : decide (a2 < 0) = true := decide_eq_true c10
     clear c10
     (first | rw [c10b0] | (simp only [i64_w, i32_w]; rw [c10b0]) | skip)
     have H' := Aside0.mk H
     clear H
     go_wp2
     go_meet
     case rel => exact ⟨_, (true), sQ, H', ⟨by first | omega | exact Nat.le_refl _⟩, ⟨bQ⟩⟩
    ·rw [if_neg c10] at H
     have c10b0 : decide (a2 < 0) = false := decide_eq_false c10
     clear c10
     (first | rw [c10b0] | (simp only [i64_w, i32_w]; rw [c10b0]) | skip)
     by_cases c11 : a2 > (l1.length : Int)
     ·rw [if_pos c11] at H
      have c11b0 : decide ((l1.length : Int) < a2) = true := decide_eq_true c11
      clear c11
      have H' := Aside0.mk H
      clear H
      go_wp2
      go_meet
      case rel => exact ⟨_, (true), sQ, H', ⟨by first | omega | exact Nat.le_refl _⟩, ⟨bQ⟩⟩
     ·rw [if_neg c11] at H
      have c11b0 : decide ((l1.length : Int) < a2) = false := decide_eq_false c11
      clear c11
      by_cases c12 : a3 < 0
      ·rw [if_pos c12] at H
       have c12b0 : decide (a3 < 0) = true := decide_eq_true c12
       clear c12
       have H' := Aside0.mk H
       clear H
       go_wp2
       go_meet
       case rel => exact ⟨_, (true), sQ, H', ⟨by first | omega | exact Nat.le_refl _⟩, ⟨bQ⟩⟩
      ·rw [if_neg c12] at H
       have c12b0 : decide (a3 < 0) = false := decide_eq_false c12
       clear c12
       by_cases c13 : a2 = (l1.length : Int)
       ·rw [if_pos c13] at H
        have c13b0 : (a2 == (l1.length : Int)) = true := beq_iff_eq.mpr c13
        have c13b1 : (a2 != (l1.length : Int)) = false := bne_eq_false_iff_eq.mpr c13
        clear c13
        by_cases c14 : a3 > 0
        ·rw [if_pos c14] at H
         have c14b0 : decide (0 < a3) = true := decide_eq_true c14
         clear c14
         have H' := Aside0.mk H
         clear H
         go_wp2
         go_meet
         case rel => exact ⟨_, (true), sQ, H', ⟨by first | omega | exact Nat.le_refl _⟩, ⟨bQ⟩⟩
        ·rw [if_neg c14] at H
         have c14b0 : decide (0 < a3) = false := decide_eq_false c14
         clear c14
         by_cases c15 : a2 < (l1.length : Int)
         ·rw [if_pos c15] at H
          have c15b0 : decide (a2 < (l1.length : Int)) = true := decide_eq_true c15
          clear c15
          by_cases c16 : 0 ≤ a2
          ·rw [if_pos c16] at H
           have c16b0 : decide (0 ≤ a2) = true := decide_eq_true c16
           clear c16
           have H' := Aside0.mk H
           clear H
           have p359 : 0 ≤ (a2 : Int) := of_decide_eq_true hQ
           have q359 : a2 < (l1.length : Int) := of_decide_eq_true hQ
           obtain ⟨ad359, A359_1, c359_1, e359, hx359_0, hx359_1, hl359_1, hi359_1⟩ := at_T42 HR1.out a2 p359 q359
           cases e359
           replace hx359_0 := (HB.out.cell (World.block_lt_of_cell? w _ hx359_0)).trans hx359_0
           replace hx359_1 := (HB.out.cell (World.block_lt_of_cell? w _ hx359_1)).trans hx359_1
           have HR359_1 := Aside0.mk hi359_1
           have HC359_1 := Aside0.mk hl359_1
           clear hi359_1 hl359_1
           replace p359 := eq_true p359
           replace q359 := eq_true q359
           go_wp2
           go_meet
           case rel => exact ⟨_, (decide (a3 > (((rd_T42 l1 a2).f1).length : Int))), sQ, H', ⟨by first | omega | exact Nat.le_refl _⟩, ⟨bQ⟩⟩
          ·rw [if_neg c16] at H
           exact absurd H (by simp)
         ·rw [if_neg c15] at H
          have c15b0 : decide (a2 < (l1.length : Int)) = false := decide_eq_false c15
          clear c15
          have H' := Aside0.mk H
          clear H
          go_wp2
          go_meet
          case rel => exact ⟨_, (false), sQ, H', ⟨by first | omega | exact Nat.le_refl _⟩, ⟨bQ⟩⟩
       ·rw [if_neg c13] at H
        have c13b0 : (a2 == (l1.length : Int)) = false := beq_eq_false_iff_ne.mpr c13
        have c13b1 : (a2 != (l1.length : Int)) = true := bne_iff_ne.mpr c13
        by_cases c17 : a2 < (l1.length : Int)
        ·rw [if_pos c17] at H
         have c17b0 : decide (a2 < (l1.length : Int)) = true := decide_eq_true c17
         clear c17
         by_cases c18 : 0 ≤ a2
         ·rw [if_pos c18] at H
          have c18b0 : decide (0 ≤ a2) = true := decide_eq_true c18
          clear c18
          have H' := Aside0.mk H
          clear H
          have p360 : 0 ≤ (a2 : Int) := of_decide_eq_true hQ
          have q360 : a2 < (l1.length : Int) := of_decide_eq_true hQ
          obtain ⟨ad360, A360_1, c360_1, e360, hx360_0, hx360_1, hl360_1, hi360_1⟩ := at_T42 HR1.out a2 p360 q360
          cases e360
          replace hx360_0 := (HB.out.cell (World.block_lt_of_cell? w _ hx360_0)).trans hx360_0
          replace hx360_1 := (HB.out.cell (World.block_lt_of_cell? w _ hx360_1)).trans hx360_1
          have HR360_1 := Aside0.mk hi360_1
          have HC360_1 := Aside0.mk hl360_1
          clear hi360_1 hl360_1
          replace p360 := eq_true p360
          replace q360 := eq_true q360
          go_wp2
          go_meet
          case rel => exact ⟨_, (decide (a3 > (((rd_T42 l1 a2).f1).length : Int))), sQ, H', ⟨by first | omega | exact Nat.le_refl _⟩, ⟨bQ⟩⟩
         ·rw [if_neg c18] at H
          exact absurd H (by simp)
        ·rw [if_neg c17] at H
         have c17b0 : decide (a2 < (l1.length : Int)) = false := decide_eq_false c17
         clear c17
         have H' := Aside0.mk H
         clear H
         go_wp2
         go_meet
         case rel => exact ⟨_, (false), sQ, H', ⟨by first | omega | exact Nat.le_refl _⟩, ⟨bQ⟩⟩
   case rest =>
    clear HC9
    try clear c1
    try clear p2
    try clear c3
    try clear p3
    try clear q3
    try clear hx3
    try clear c4
    try clear c6
    try clear c6b0
    try clear c6b1
    try clear c8
    try clear c10
    try clear c10b0
    try clear c11
    try clear c11b0
    try clear c12
    try clear c12b0
    try clear c13
    try clear c13b0
    try clear c13b1
    try clear c14
    try clear c14b0
    try clear c15
    try clear c15b0
    try clear c16
    try clear c16b0
    try clear c17
    try clear c17b0
    try clear c18
    try clear c18b0
    try clear hx359_0
    try clear hx359_1
    try clear hx360_0
    try clear hx360_1
    try clear p359
    try clear p360
    try clear q359
    try clear q360
    obtain ⟨kq, x58_8, rfl, HA, HJ8, HB⟩ := hcut
    cases kq with
    | zero => exact absurd HA.out (by simp [berylref20_Torn.j0])
    | succ kj8 =>
     have H := HA.out
     clear HA
     simp only [berylref20_Torn.j0] at H
     by_cases c19 : x58_8 = true
     ·subst c19
      rw [if_pos rfl] at H
      simp only [Option.some.injEq, Prod.mk.injEq] at H
      obtain ⟨rfl, rfl⟩ := H
      go_wp2
      go_ret2
      exact ⟨_, eQ, by first | exact Kd.R_nil _ _ _ _ _ | exact Kd.N_nil _ _ _ _ _ | exact Kd.V_nil _ _ _ _ _ | exact Kd.Q_nil _ _ _ _ _ | exact Kd.S_nil _ _ _ _ _, bQ⟩
     ·replace c19 := Bool.eq_false_iff.mpr c19
      subst c19
      rw [if_neg (show ¬ (false = true) by decide)] at H
      obtain ⟨y361, hy361⟩ : ∃ y_ : List Int, y_ = (([] : List Int)) := ⟨_, rfl⟩
      replace H : (if y361.length + l0.length < 140737488355328 then (berylref20_Torn.l0 kj8 l1 a2 a3 (y361 ++ l0) 0) else (none)) = some (r1, r2) := by first | (rw [hy361]; with_reducible exact H) | (have H2_ := (Option.bind_some _ _).symm.trans H; rw [hy361]; with_reducible exact H2_) | (have H2_ := (Option.bind_some _ _).symm.trans H; with_reducible exact H2_) | with_reducible exact H | (rw [hy361]; exact H) | exact H
      have Ny361 := Aside0.mk hy361
      clear hy361
      by_cases c20 : y361.length + l0.length < 140737488355328
      ·rw [if_pos c20] at H
       have LMc20 := Aside0.mk c20
       clear c20
       obtain ⟨y364, hy364⟩ : ∃ y_ : List Int, y_ = (y361 ++ l0) := ⟨_, rfl⟩
       replace H : (berylref20_Torn.l0 kj8 l1 a2 a3 y364 0) = some (r1, r2) := by first | (rw [hy364]; with_reducible exact H) | (have H2_ := (Option.bind_some _ _).symm.trans H; rw [hy364]; with_reducible exact H2_) | (have H2_ := (Option.bind_some _ _).symm.trans H; with_reducible exact H2_) | with_reducible exact H | (rw [hy364]; exact H) | exact H
       have Ny364 := Aside0.mk hy364
       clear hy364
       have H' := Aside0.mk H
       clear H
       go_wp2_with (first | ((with_reducible refine gate_dst (N := 59) rfl ?_); (try (refine gate_guard (by rfl) ?_; dsimp only)); refine Kd.R_lit (Kd.int .u8) _ 5 ?hg (N := 59) ?hd (xs := ([] : List Int)) (inner := []) (ok := fun _ => True) (okp := fun _ => True) ?hr ?hp (fun _ hk => hk) trivial (Below.refl _ _) (Nat.le_refl _) (by simp) ?_; (case hd => rfl); (case hg => rfl); (case hr => first | (go_simp; done) | (go_simp; rfl)); (case hp => exact (Reps.none _ _)); intro v362 w21 ho22 hb hg_ hnew_; clear hg_ hnew_; (first | rw [← Ny361.out] at ho22 | (simp only [Int.reduceToNat] at ho22; rw [← Ny361.out] at ho22)); have n0_ := Aside0.mk (Kd.R_lower ho22 (below_size bQ)); have n1_ := Aside0.mk (below_step bQ hb); clear HB; have HO363 := n0_; have HB := n1_; clear n0_ n1_; clear hb ho22) | ((with_reducible refine gate_builtin (b := .append) (xs := #[.tmp 59, .tmp 60]) rfl ?_); (try (refine gate_guard (by rfl) ?_; dsimp only)); at_builtin; refine Kd.R_append_rows (Kd.int .u8) (w0 := w) w.heap.size rfl (.tmp 59) (.tmp 60) 22 5 (.int .u8 0) 1 rfl Tryz.underlying22 info5 rfl (by decide) (by omega) v362 y361 l0 _ _ _ (fun _ => True) (fun _ => False) rfl rfl ?aO ?aR (fun _ _ h => h) (fun _ h => h.elim) ?aF ?aB ?aS ?aL ?_; (case aR => exact cQ (Kd.C_below HR0.out HB.out)); (case aB => exact bQ); (case aF => exact (fun _ _ => trivial)); (case aO => exact (rQ HO363.out)); (case aS => exact (below_size bQ)); (case aL => have := LMc20.out; omega); intro v365 w23 ho hb hg hat; rw [← Ny364.out] at ho; have n0_ := Aside0.mk (hb); have n1_ := Aside0.mk (ho); clear HB; clear HO363; have HB := n0_; have HO366 := n1_; clear n0_ n1_; clear ho hb hg hat))
       go_loopg [11] kj8 (fun kq v11 w' => ∃ (x10_2 : List Int) (x11_2 : Int), v11 = .int .i64 x11_2 ∧ Aside0 (berylref20_Torn.l0 kq l1 a2 a3 x10_2 x11_2 = some (r1, r2)) ∧ Aside0 (kq ≤ kj8) ∧ Aside0 (Kd.R (Kd.int .u8) 5 w' w.heap.size (fun _ => True) v365 x10_2) ∧ Aside0 (Below w.heap.size w w'))
       case atStart => exact ⟨(y364), (0), sQ, H', ⟨Nat.le_refl _⟩, ⟨by (with_reducible repeat (first | apply Kd.R_alloc | apply Kd.R_drewN | apply Kd.R_drew)); exact HO366.out⟩, ⟨bQ⟩⟩
       case round =>
        clear H'
        try clear c1
        try clear c2
        try clear p2
        try clear c3
        try clear p3
        try clear q3
        try clear hx3
        try clear c4
        try clear c6
        try clear c6b0
        try clear c6b1
        try clear c8
        try clear c10
        try clear c10b0
        try clear c11
        try clear c11b0
        try clear c12
        try clear c12b0
        try clear c13
        try clear c13b0
        try clear c13b1
        try clear c14
        try clear c14b0
        try clear c15
        try clear c15b0
        try clear c16
        try clear c16b0
        try clear c17
        try clear c17b0
        try clear c18
        try clear c18b0
        try clear c19
        try clear c20
        try clear hx359_0
        try clear hx359_1
        try clear hx360_0
        try clear hx360_1
        try clear p2
        try clear p3
        try clear p359
        try clear p360
        try clear q3
        try clear q359
        try clear q360
        obtain ⟨x10_2, x11_2, rfl, HA, HK2, HO_10, HB⟩ := hrel
        cases gk with
        | zero => exact absurd HA.out (by simp [berylref20_Torn.l0])
        | succ k2 =>
         have H := HA.out
         clear HA
         simp only [berylref20_Torn.l0] at H
         have HC24 := Aside0.mk H
         clear H
         go_upto_region 9 with (fail)
         go_cut [70] (fun v70 wc => ∃ (kq : Nat) (x70_23 : Bool), v70 = .bool x70_23 ∧ Aside0 (berylref20_Torn.j2 kq l1 a2 a3 x10_2 x11_2 x70_23 = some (r1, r2)) ∧ Aside0 (kq ≤ k2) ∧ Aside0 (Kd.R (Kd.int .u8) 5 wc w.heap.size (fun _ => True) v365 x10_2) ∧ Aside0 (Below w.heap.size w wc))
         case first =>
          have H := HC24.out
          clear HC24
          by_cases c25 : x11_2 < (l1.length : Int)
          ·rw [if_pos c25] at H
           have c25b0 : decide (x11_2 < (l1.length : Int)) = true := decide_eq_true c25
           clear c25
           (first | rw [c25b0] | (simp only [i64_w, i32_w]; rw [c25b0]) | skip)
           have H' := Aside0.mk H
           clear H
           go_wp2
           go_meet
           case rel => exact ⟨_, (decide (x11_2 ≤ a2)), sQ, H', ⟨by have := HJ8.out; have := HK2.out; first | omega | exact Nat.le_refl _⟩, ⟨by (with_reducible repeat (first | apply Kd.R_alloc | apply Kd.R_drewN | apply Kd.R_drew)); exact HO_10.out⟩, ⟨bQ⟩⟩
          ·rw [if_neg c25] at H
           have c25b0 : decide (x11_2 < (l1.length : Int)) = false := decide_eq_false c25
           clear c25
           (first | rw [c25b0] | (simp only [i64_w, i32_w]; rw [c25b0]) | skip)
           have H' := Aside0.mk H
           clear H
           go_wp2
           go_meet
           case rel => exact ⟨_, (false), sQ, H', ⟨by have := HJ8.out; have := HK2.out; first | omega | exact Nat.le_refl _⟩, ⟨by (with_reducible repeat (first | apply Kd.R_alloc | apply Kd.R_drewN | apply Kd.R_drew)); exact HO_10.out⟩, ⟨bQ⟩⟩
         case rest =>
          clear HC24
          try clear c1
          try clear c2
          try clear p2
          try clear c3
          try clear p3
          try clear q3
          try clear hx3
          try clear c4
          try clear c6
          try clear c6b0
          try clear c6b1
          try clear c8
          try clear c10
          try clear c10b0
          try clear c11
          try clear c11b0
          try clear c12
          try clear c12b0
          try clear c13
          try clear c13b0
          try clear c13b1
          try clear c14
          try clear c14b0
          try clear c15
          try clear c15b0
          try clear c16
          try clear c16b0
          try clear c17
          try clear c17b0
          try clear c18
          try clear c18b0
          try clear c19
          try clear c20
          try clear c25
          try clear c25b0
          try clear hx359_0
          try clear hx359_1
          try clear hx360_0
          try clear hx360_1
          try clear p2
          try clear p3
          try clear p359
          try clear p360
          try clear q3
          try clear q359
          try clear q360
          obtain ⟨kq, x70_23, rfl, HA, HJ23, HO_10, HB⟩ := hcut
          cases kq with
          | zero => exact absurd HA.out (by simp [berylref20_Torn.j2])
          | succ kj23 =>
           have H := HA.out
           clear HA
           simp only [berylref20_Torn.j2] at H
           by_cases c26 : x70_23 = true
           ·subst c26
            rw [if_pos rfl] at H
            by_cases c27 : 0 ≤ x11_2
            ·rw [if_pos c27] at H
             have c27b0 : decide (0 ≤ x11_2) = true := decide_eq_true c27
             clear c27
             by_cases c28 : x11_2 < (l1.length : Int)
             ·rw [if_pos c28] at H
              have c28b0 : decide (x11_2 < (l1.length : Int)) = true := decide_eq_true c28
              clear c28
              have HC29 := Aside0.mk H
              clear H
              have p367 : 0 ≤ (x11_2 : Int) := of_decide_eq_true hQ
              have q367 : x11_2 < (l1.length : Int) := of_decide_eq_true hQ
              obtain ⟨ad367, A367_1, c367_1, e367, hx367_0, hx367_1, hl367_1, hi367_1⟩ := at_T42 HR1.out x11_2 p367 q367
              cases e367
              replace hx367_0 := (HB.out.cell (World.block_lt_of_cell? w _ hx367_0)).trans hx367_0
              replace hx367_1 := (HB.out.cell (World.block_lt_of_cell? w _ hx367_1)).trans hx367_1
              have HR367_1 := Aside0.mk hi367_1
              have HC367_1 := Aside0.mk hl367_1
              clear hi367_1 hl367_1
              replace p367 := eq_true p367
              replace q367 := eq_true q367
              go_upto_if 81 with (fail)
              go_cut [12] (fun v12 wc => ∃ (kq : Nat) (x12_28 : Int), v12 = .int .i64 x12_28 ∧ Aside0 (berylref20_Torn.j3 kq l1 a2 a3 x10_2 x11_2 x12_28 = some (r1, r2)) ∧ Aside0 (kq ≤ kj23) ∧ Aside0 (Kd.R (Kd.int .u8) 5 wc w.heap.size (fun _ => True) v365 x10_2) ∧ Aside0 (Below w.heap.size w wc))
              case first =>
               have H := HC29.out
               clear HC29
               by_cases c30 : x11_2 = a2
               ·rw [if_pos c30] at H
                have c30b0 : (x11_2 == a2) = true := beq_iff_eq.mpr c30
                have c30b1 : (x11_2 != a2) = false := bne_eq_false_iff_eq.mpr c30
                clear c30
                (first | rw [c30b0] | (simp only [i64_w, i32_w]; rw [c30b0]) | skip)
                have H' := Aside0.mk H
                clear H
                go_wp2
                go_meet
                case rel => exact ⟨_, (a3), sQ, H', ⟨by have := HJ8.out; have := HK2.out; have := HJ23.out; first | omega | exact Nat.le_refl _⟩, ⟨by (with_reducible repeat (first | apply Kd.R_alloc | apply Kd.R_drewN | apply Kd.R_drew)); exact HO_10.out⟩, ⟨bQ⟩⟩
               ·rw [if_neg c30] at H
                have c30b0 : (x11_2 == a2) = false := beq_eq_false_iff_ne.mpr c30
                have c30b1 : (x11_2 != a2) = true := bne_iff_ne.mpr c30
                (first | rw [c30b0] | (simp only [i64_w, i32_w]; rw [c30b0]) | skip)
                have H' := Aside0.mk H
                clear H
                go_wp2
                go_meet
                case rel => exact ⟨_, ((((rd_T42 l1 x11_2).f1).length : Int)), sQ, H', ⟨by have := HJ8.out; have := HK2.out; have := HJ23.out; first | omega | exact Nat.le_refl _⟩, ⟨by (with_reducible repeat (first | apply Kd.R_alloc | apply Kd.R_drewN | apply Kd.R_drew)); exact HO_10.out⟩, ⟨bQ⟩⟩
              case rest =>
               clear HC29
               try clear c1
               try clear c2
               try clear p2
               try clear c3
               try clear p3
               try clear q3
               try clear hx3
               try clear c4
               try clear c6
               try clear c6b0
               try clear c6b1
               try clear c8
               try clear c10
               try clear c10b0
               try clear c11
               try clear c11b0
               try clear c12
               try clear c12b0
               try clear c13
               try clear c13b0
               try clear c13b1
               try clear c14
               try clear c14b0
               try clear c15
               try clear c15b0
               try clear c16
               try clear c16b0
               try clear c17
               try clear c17b0
               try clear c18
               try clear c18b0
               try clear c19
               try clear c20
               try clear c25
               try clear c25b0
               try clear c26
               try clear c27
               try clear c27b0
               try clear c28
               try clear c28b0
               try clear c30
               try clear c30b0
               try clear c30b1
               try clear hx359_0
               try clear hx359_1
               try clear hx360_0
               try clear hx360_1
               try clear hx367_0
               try clear hx367_1
               try clear p2
               try clear p3
               try clear p359
               try clear p360
               try clear p367
               try clear q3
               try clear q359
               try clear q360
               try clear q367
               obtain ⟨kq, x12_28, rfl, HA, HJ28, HO_10, HB⟩ := hcut
               cases kq with
               | zero => exact absurd HA.out (by simp [berylref20_Torn.j3])
               | succ kj28 =>
                have H := HA.out
                clear HA
                simp only [berylref20_Torn.j3] at H
                have H' := Aside0.mk H
                clear H
                go_wp2
                go_loopg [13] kj28 (fun kq v13 w' => ∃ (x10_5 : List Int) (x13_5 : Int), v13 = .int .i64 x13_5 ∧ Aside0 (berylref20_Torn.l1 kq l1 a2 a3 x10_5 x11_2 x12_28 x13_5 = some (r1, r2)) ∧ Aside0 (kq ≤ kj28) ∧ Aside0 (Kd.R (Kd.int .u8) 5 w' w.heap.size (fun _ => True) v365 x10_5) ∧ Aside0 (Below w.heap.size w w'))
                case atStart => exact ⟨(x10_2), (0), sQ, H', ⟨Nat.le_refl _⟩, ⟨by (with_reducible repeat (first | apply Kd.R_alloc | apply Kd.R_drewN | apply Kd.R_drew)); exact HO_10.out⟩, ⟨bQ⟩⟩
                case round =>
                 clear H'
                 try clear c1
                 try clear c2
                 try clear p2
                 try clear c3
                 try clear p3
                 try clear q3
                 try clear hx3
                 try clear c4
                 try clear c6
                 try clear c6b0
                 try clear c6b1
                 try clear c8
                 try clear c10
                 try clear c10b0
                 try clear c11
                 try clear c11b0
                 try clear c12
                 try clear c12b0
                 try clear c13
                 try clear c13b0
                 try clear c13b1
                 try clear c14
                 try clear c14b0
                 try clear c15
                 try clear c15b0
                 try clear c16
                 try clear c16b0
                 try clear c17
                 try clear c17b0
                 try clear c18
                 try clear c18b0
                 try clear c19
                 try clear c20
                 try clear c25
                 try clear c25b0
                 try clear c26
                 try clear c27
                 try clear c27b0
                 try clear c28
                 try clear c28b0
                 try clear c30
                 try clear c30b0
                 try clear c30b1
                 try clear hx359_0
                 try clear hx359_1
                 try clear hx360_0
                 try clear hx360_1
                 try clear hx367_0
                 try clear hx367_1
                 try clear p2
                 try clear p3
                 try clear p359
                 try clear p360
                 try clear p367
                 try clear q3
                 try clear q359
                 try clear q360
                 try clear q367
                 obtain ⟨x10_5, x13_5, rfl, HA, HK5, HO_10, HB⟩ := hrel
                 cases gk with
                 | zero => exact absurd HA.out (by simp [berylref20_Torn.l1])
                 | succ k5 =>
                  have H := HA.out
                  clear HA
                  simp only [berylref20_Torn.l1] at H
                  by_cases c31 : x13_5 < x12_28
                  ·rw [if_pos c31] at H
                   have c31b0 : decide (x13_5 < x12_28) = true := decide_eq_true c31
                   clear c31
                   by_cases c32 : 0 ≤ x11_2
                   ·rw [if_pos c32] at H
                    have c32b0 : decide (0 ≤ x11_2) = true := decide_eq_true c32
                    clear c32
                    by_cases c33 : x11_2 < (l1.length : Int)
                    ·rw [if_pos c33] at H
                     have c33b0 : decide (x11_2 < (l1.length : Int)) = true := decide_eq_true c33
                     clear c33
                     by_cases c34 : 0 ≤ x13_5
                     ·rw [if_pos c34] at H
                      have c34b0 : decide (0 ≤ x13_5) = true := decide_eq_true c34
                      clear c34
                      by_cases c35 : x13_5 < (((rd_T42 l1 x11_2).f1).length : Int)
                      ·rw [if_pos c35] at H
                       have c35b0 : decide (x13_5 < (((rd_T42 l1 x11_2).f1).length : Int)) = true := decide_eq_true c35
                       clear c35
                       obtain ⟨ji36, hji36⟩ : ∃ j_ : Int, (wrap64 ((wrap64 (((rd_T42 l1 x11_2).f0) * 64)) + x13_5)) = j_ := ⟨_, rfl⟩
                       replace H : (if 0 ≤ (ji36) then (if (ji36) < (x10_5.length : Int) then (berylref20_Torn.l1 k5 l1 a2 a3 (x10_5.set ((ji36) : Int).toNat (rd ((rd_T42 l1 x11_2).f1) x13_5)) x11_2 x12_28 (wrap64 (x13_5 + 1))) else (none)) else (none)) = some (r1, r2) := by first | (rw [hji36] at H; exact H) | (simp only [hji36] at H ⊢; exact H)
                       have hji36w : (IntKind.i64.wrap ((wrap64 (((rd_T42 l1 x11_2).f0) * 64)) + x13_5)) = ji36 := (i64_w _).trans hji36
                       by_cases c37 : 0 ≤ (ji36)
                       ·rw [if_pos c37] at H
                        have c37b0 : decide (0 ≤ (ji36)) = true := decide_eq_true c37
                        clear c37
                        by_cases c38 : (ji36) < (x10_5.length : Int)
                        ·rw [if_pos c38] at H
                         have c38b0 : decide ((ji36) < (x10_5.length : Int)) = true := decide_eq_true c38
                         clear c38
                         obtain ⟨y371, hy371⟩ : ∃ y_ : List Int, y_ = (x10_5.set ((ji36) : Int).toNat (rd ((rd_T42 l1 x11_2).f1) x13_5)) := ⟨_, rfl⟩
                         replace H : (berylref20_Torn.l1 k5 l1 a2 a3 y371 x11_2 x12_28 (wrap64 (x13_5 + 1))) = some (r1, r2) := by first | (rw [hy371]; with_reducible exact H) | (have H2_ := (Option.bind_some _ _).symm.trans H; rw [hy371]; with_reducible exact H2_) | (have H2_ := (Option.bind_some _ _).symm.trans H; with_reducible exact H2_) | with_reducible exact H | (rw [hy371]; exact H) | exact H
                         have Ny371 := Aside0.mk hy371
                         clear hy371
                         have H' := Aside0.mk H
                         clear H
                         try go_wp2
                         have n0_ := Aside0.mk (Kd.R_drew HO_10.out)
                         have n1_ := Aside0.mk (below_drew1 HB.out)
                         clear HO_10
                         clear HB
                         have HO_10 := n0_
                         have HB := n1_
                         clear n0_ n1_
                         have p368 : 0 ≤ (x11_2 : Int) := of_decide_eq_true hQ
                         have q368 : x11_2 < (l1.length : Int) := of_decide_eq_true hQ
                         obtain ⟨ad368, A368_1, c368_1, e368, hx368_0, hx368_1, hl368_1, hi368_1⟩ := at_T42 HR1.out x11_2 p368 q368
                         have hw368_1 := hx368_1
                         have hw368_0 := hx368_0
                         obtain rfl : ad367 = ad368 := (by injection e368)
                         replace hx368_0 := (HB.out.cell (World.block_lt_of_cell? w _ hx368_0)).trans hx368_0
                         replace hx368_1 := (HB.out.cell (World.block_lt_of_cell? w _ hx368_1)).trans hx368_1
                         have HR368_1 := Aside0.mk hi368_1
                         have HC368_1 := Aside0.mk hl368_1
                         clear hi368_1 hl368_1
                         replace p368 := eq_true p368
                         replace q368 := eq_true q368
                         have p369 : 0 ≤ (x11_2 : Int) := of_decide_eq_true hQ
                         have q369 : x11_2 < (l1.length : Int) := of_decide_eq_true hQ
                         obtain ⟨ad369, A369_1, c369_1, e369, hx369_0, hx369_1, hl369_1, hi369_1⟩ := at_T42 HR1.out x11_2 p369 q369
                         have hw369_1 := hx369_1
                         have hw369_0 := hx369_0
                         obtain rfl : ad367 = ad369 := (by injection e369)
                         replace hx369_0 := (HB.out.cell (World.block_lt_of_cell? w _ hx369_0)).trans hx369_0
                         replace hx369_1 := (HB.out.cell (World.block_lt_of_cell? w _ hx369_1)).trans hx369_1
                         have HR369_1 := Aside0.mk hi369_1
                         have HC369_1 := Aside0.mk hl369_1
                         clear hi369_1 hl369_1
                         replace p369 := eq_true p369
                         replace q369 := eq_true q369
                         have ea_ := Option.some.inj (hx368_1.symm.trans hx369_1)
                         injection ea_ with ea_ en_ ec_
                         subst ea_
                         subst ec_
                         clear en_
                         have p370 : 0 ≤ (x13_5 : Int) := of_decide_eq_true hQ
                         have q370 : x13_5 < (((rd_T42 l1 x11_2).f1).length : Int) := of_decide_eq_true hQ
                         obtain ⟨ad370, e370, hx370_0⟩ := Kd.at_int HR369_1.out x13_5 p370 q370
                         have hw370_0 := hx370_0
                         cases e370
                         replace hx370_0 := (HB.out.cell (World.block_lt_of_cell? w _ hx370_0)).trans hx370_0
                         replace p370 := eq_true p370
                         replace q370 := eq_true q370
                         have p39 : 0 ≤ ((ji36) : Int) := of_decide_eq_true hQ
                         have q39 : ((ji36) : Int) < ((x10_5.length : Int) : Int) := of_decide_eq_true hQ
                         obtain ⟨go39, co39, eo39, gb39, gl39, cl39, HG39⟩ := Kd.R_form HO_10.out (by omega)
                         (first | cases eo39 | (injection eo39 with ea_ en_ ec_; (first | subst ea_ | (injection ea_ with ea_; subst ea_)); subst ec_; clear en_))
                         have GB39 := Aside0.mk gb39
                         have GG39 := Aside0.mk HG39
                         clear gb39 gl39 HG39
                         obtain ⟨hx39_0, hf39_0⟩ := Kd.R_celln 0 HO_10.out ((ji36) : Int) p39 q39
                         replace p39 := eq_true p39
                         replace q39 := eq_true q39
                         have HP41 := Kd.R_putn HO_10.out ((ji36) : Int) (rd ((rd_T42 l1 x11_2).f1) x13_5)
                         rw [← Ny371.out] at HP41
                         have HQ41 := Aside0.mk HP41
                         clear HP41
                         refine start_ (n := 19) (S := fun w' => w'.cell? (ad367.add ((x11_2).toNat * 2)) = some (.int .i64 ((rd_T42 l1 x11_2).f0)) ∧ w'.cell? ⟨(ad367.add ((x11_2).toNat * 2)).block, (ad367.add ((x11_2).toNat * 2)).off + 1, none⟩ = some (.slice (some ad370) ((rd_T42 l1 x11_2).f1).length c368_1) ∧ w'.cell? (ad367.add ((x11_2).toNat * 2)) = some (.int .i64 ((rd_T42 l1 x11_2).f0)) ∧ w'.cell? ⟨(ad367.add ((x11_2).toNat * 2)).block, (ad367.add ((x11_2).toNat * 2)).off + 1, none⟩ = some (.slice (some ad370) ((rd_T42 l1 x11_2).f1).length c368_1) ∧ w'.cell? (ad370.add (x13_5).toNat) = some (.int .u8 (rd ((rd_T42 l1 x11_2).f1) x13_5))) (ds := [18]) #[false, false, false, false, false, false, false, false, false, false, false, false, false, false, false, false, false, false, false] (by kernel_rfl) rfl rfl ⟨((HB.out.cell (World.block_lt_of_cell? w _ hw368_0)).trans hw368_0), ((HB.out.cell (World.block_lt_of_cell? w _ hw368_1)).trans hw368_1), ((HB.out.cell (World.block_lt_of_cell? w _ hw369_0)).trans hw369_0), ((HB.out.cell (World.block_lt_of_cell? w _ hw369_1)).trans hw369_1), ((HB.out.cell (World.block_lt_of_cell? w _ hw370_0)).trans hw370_0)⟩ (fun hHeld => ?_); refine with_tabW berylref20_Torn.tab17 berylref20_Torn.bits17 (fun HT_ HW_ => ?_)
                         generalize wr.drew = w40 at HO_10 HB GG39 HQ41 HR368_1 HR369_1 hf39_0 hx368_0 hx368_1 hx369_0 hx369_1 hx370_0 hx39_0 hHeld ⊢
                         refine pure_ (i := 0) (N := some 88) (v := ?_) (a' := ?_) #[true, false, false, false, false, false, false, false, false, false, false, false, false, false, false, false, false, false, false] rfl rfl (any_of HT_.out (by kernel_rfl)) (fun _ _ _ h => h) (Or.inl ⟨by rfl, ?_⟩) ?_ ?_
                         rotate_left
                         ·intro w'
                          go_simp
                          with_reducible rfl
                         rotate_left
                         ·simp only [Act.put, List.setIfInBounds_toArray, List.set_cons_zero, List.set_cons_succ, i64_w, i32_w]
                          rfl
                         refine pure_ (i := 1) (N := some 89) (v := ?_) (a' := ?_) #[true, true, false, false, false, false, false, false, false, false, false, false, false, false, false, false, false, false, false] rfl rfl (any_of HT_.out (by kernel_rfl)) (fun _ _ _ h => h) (Or.inl ⟨by rfl, ?_⟩) ?_ ?_
                         rotate_left
                         ·intro w'
                          go_simp
                          with_reducible rfl
                         rotate_left
                         ·simp only [Act.put, List.setIfInBounds_toArray, List.set_cons_zero, List.set_cons_succ, i64_w, i32_w]
                          rfl
                         refine pure_ (i := 2) (N := some 90) (v := ?_) (a' := ?_) #[true, true, true, false, false, false, false, false, false, false, false, false, false, false, false, false, false, false, false] rfl rfl (any_of HT_.out (by kernel_rfl)) (fun _ _ _ h => h) (Or.inl ⟨by rfl, ?_⟩) ?_ ?_
                         rotate_left
                         ·intro w'
                          go_simp
                          with_reducible rfl
                         rotate_left
                         ·simp only [Act.put, List.setIfInBounds_toArray, List.set_cons_zero, List.set_cons_succ, i64_w, i32_w]
                          rfl
                         refine pure_ (i := 3) (N := some 91) (v := ?_) (a' := ?_) #[true, true, true, true, false, false, false, false, false, false, false, false, false, false, false, false, false, false, false] rfl rfl (any_of HT_.out (by kernel_rfl)) (fun _ _ _ h => h) (Or.inl ⟨by rfl, ?_⟩) ?_ ?_
                         rotate_left
                         ·intro w'
                          go_simp
                          with_reducible rfl
                         rotate_left
                         ·simp only [Act.put, List.setIfInBounds_toArray, List.set_cons_zero, List.set_cons_succ, i64_w, i32_w]
                          rfl
                         refine pure_ (i := 4) (N := some 92) (v := ?_) (a' := ?_) #[true, true, true, true, true, false, false, false, false, false, false, false, false, false, false, false, false, false, false] rfl rfl (any_of HT_.out (by kernel_rfl)) (fun _ _ _ h => h) (Or.inl ⟨by rfl, ?_⟩) ?_ ?_
                         rotate_left
                         ·intro w'
                          go_simp
                          with_reducible rfl
                         rotate_left
                         ·simp only [Act.put, List.setIfInBounds_toArray, List.set_cons_zero, List.set_cons_succ, i64_w, i32_w]
                          rfl
                         refine pure_ (i := 7) (N := some 95) (v := ?_) (a' := ?_) #[true, true, true, true, true, false, false, true, false, false, false, false, false, false, false, false, false, false, false] rfl rfl (any_of HT_.out (by kernel_rfl)) (fun _ _ _ h => h) (Or.inl ⟨by rfl, ?_⟩) ?_ ?_
                         rotate_left
                         ·intro w'
                          go_simp
                          with_reducible rfl
                         rotate_left
                         ·simp only [Act.put, List.setIfInBounds_toArray, List.set_cons_zero, List.set_cons_succ, i64_w, i32_w]
                          rfl
                         refine pure_ (i := 9) (N := some 97) (v := ?_) (a' := ?_) #[true, true, true, true, true, false, false, true, false, true, false, false, false, false, false, false, false, false, false] rfl rfl (any_of HT_.out (by kernel_rfl)) (fun _ _ _ h => h) (Or.inl ⟨by rfl, ?_⟩) ?_ ?_
                         rotate_left
                         ·intro w'
                          go_simp
                          with_reducible rfl
                         rotate_left
                         ·simp only [Act.put, List.setIfInBounds_toArray, List.set_cons_zero, List.set_cons_succ, i64_w, i32_w]
                          rfl
                         refine pure_ (i := 10) (N := some 98) (v := ?_) (a' := ?_) #[true, true, true, true, true, false, false, true, false, true, true, false, false, false, false, false, false, false, false] rfl rfl (any_of HT_.out (by kernel_rfl)) (fun _ _ _ h => h) (Or.inl ⟨by rfl, ?_⟩) ?_ ?_
                         rotate_left
                         ·intro w'
                          go_simp
                          with_reducible rfl
                         rotate_left
                         ·simp only [Act.put, List.setIfInBounds_toArray, List.set_cons_zero, List.set_cons_succ, i64_w, i32_w]
                          rfl
                         refine pure_ (i := 11) (N := some 99) (v := ?_) (a' := ?_) #[true, true, true, true, true, false, false, true, false, true, true, true, false, false, false, false, false, false, false] rfl rfl (any_of HT_.out (by kernel_rfl)) (fun _ _ _ h => h) (Or.inl ⟨by rfl, ?_⟩) ?_ ?_
                         rotate_left
                         ·intro w'
                          go_simp
                          with_reducible rfl
                         rotate_left
                         ·simp only [Act.put, List.setIfInBounds_toArray, List.set_cons_zero, List.set_cons_succ, i64_w, i32_w]
                          rfl
                         refine pure_ (i := 12) (N := some 100) (v := ?_) (a' := ?_) #[true, true, true, true, true, false, false, true, false, true, true, true, true, false, false, false, false, false, false] rfl rfl (any_of HT_.out (by kernel_rfl)) (fun _ _ _ h => h) (Or.inl ⟨by rfl, ?_⟩) ?_ ?_
                         rotate_left
                         ·intro w'
                          go_simp
                          with_reducible rfl
                         rotate_left
                         ·simp only [Act.put, List.setIfInBounds_toArray, List.set_cons_zero, List.set_cons_succ, i64_w, i32_w]
                          rfl
                         refine pure_ (i := 14) (N := some 102) (v := ?_) (a' := ?_) #[true, true, true, true, true, false, false, true, false, true, true, true, true, false, true, false, false, false, false] rfl rfl (any_of HT_.out (by kernel_rfl)) (fun _ _ _ h => h) (Or.inl ⟨by rfl, ?_⟩) ?_ ?_
                         rotate_left
                         ·intro w'
                          go_simp
                          with_reducible rfl
                         rotate_left
                         ·simp only [Act.put, List.setIfInBounds_toArray, List.set_cons_zero, List.set_cons_succ, i64_w, i32_w]
                          rfl
                         refine take_ (i := 5) (N := some 93) (v := ?_) (a' := ?_) #[true, true, true, true, true, true, false, true, false, true, true, true, true, false, true, false, false, false, false] rfl rfl (take_ofW HT_.out HW_.out (by kernel_rfl)) (fun _ _ _ h => h) (Or.inl ⟨by rfl, ?_⟩) hHeld ?_ ?_
                         rotate_left
                         ·rintro w' ⟨s0, s1, s2, s3, s4⟩
                          go_simp
                          with_reducible rfl
                         rotate_left
                         ·simp only [Act.put, List.setIfInBounds_toArray, List.set_cons_zero, List.set_cons_succ, i64_w, i32_w]
                          rfl
                         refine pure_ (i := 6) (N := some 94) (v := ?_) (a' := ?_) #[true, true, true, true, true, true, true, true, false, true, true, true, true, false, true, false, false, false, false] rfl rfl (any_of HT_.out (by kernel_rfl)) (fun _ _ _ h => h) (Or.inl ⟨by rfl, ?_⟩) ?_ ?_
                         rotate_left
                         ·intro w'
                          go_simp
                          with_reducible rfl
                         rotate_left
                         ·simp only [Act.put, List.setIfInBounds_toArray, List.set_cons_zero, List.set_cons_succ, i64_w, i32_w]
                          rfl
                         refine pure_ (i := 8) (N := some 96) (v := ?_) (a' := ?_) #[true, true, true, true, true, true, true, true, true, true, true, true, true, false, true, false, false, false, false] rfl rfl (any_of HT_.out (by kernel_rfl)) (fun _ _ _ h => h) (Or.inl ⟨by rfl, ?_⟩) ?_ ?_
                         rotate_left
                         ·intro w'
                          go_simp
                          with_reducible rfl
                         rotate_left
                         ·simp only [Act.put, List.setIfInBounds_toArray, List.set_cons_zero, List.set_cons_succ, i64_w, i32_w]
                          rfl
                         refine take_ (i := 13) (N := some 101) (v := ?_) (a' := ?_) #[true, true, true, true, true, true, true, true, true, true, true, true, true, true, true, false, false, false, false] rfl rfl (take_ofW HT_.out HW_.out (by kernel_rfl)) (fun _ _ _ h => h) (Or.inl ⟨by rfl, ?_⟩) hHeld ?_ ?_
                         rotate_left
                         ·rintro w' ⟨s0, s1, s2, s3, s4⟩
                          go_simp
                          with_reducible rfl
                         rotate_left
                         ·simp only [Act.put, List.setIfInBounds_toArray, List.set_cons_zero, List.set_cons_succ, i64_w, i32_w]
                          rfl
                         refine pure_ (i := 15) (N := some 103) (v := ?_) (a' := ?_) #[true, true, true, true, true, true, true, true, true, true, true, true, true, true, true, true, false, false, false] rfl rfl (any_of HT_.out (by kernel_rfl)) (fun _ _ _ h => h) (Or.inl ⟨by rfl, ?_⟩) ?_ ?_
                         rotate_left
                         ·intro w'
                          go_simp
                          with_reducible rfl
                         rotate_left
                         ·simp only [Act.put, List.setIfInBounds_toArray, List.set_cons_zero, List.set_cons_succ, i64_w, i32_w]
                          rfl
                         refine take_ (i := 16) (N := some 104) (v := ?_) (a' := ?_) #[true, true, true, true, true, true, true, true, true, true, true, true, true, true, true, true, true, false, false] rfl rfl (take_ofW HT_.out HW_.out (by kernel_rfl)) (fun _ _ _ h => h) (Or.inl ⟨by rfl, ?_⟩) hHeld ?_ ?_
                         rotate_left
                         ·rintro w' ⟨s0, s1, s2, s3, s4⟩
                          go_simp
                          with_reducible rfl
                         rotate_left
                         ·simp only [Act.put, List.setIfInBounds_toArray, List.set_cons_zero, List.set_cons_succ, i64_w, i32_w]
                          rfl
                         refine pure_ (i := 17) (N := some 105) (v := ?_) (a' := ?_) #[true, true, true, true, true, true, true, true, true, true, true, true, true, true, true, true, true, true, false] rfl rfl (any_of HT_.out (by kernel_rfl)) (fun _ _ _ h => h) (Or.inl ⟨by rfl, ?_⟩) ?_ ?_
                         rotate_left
                         ·intro w'
                          go_simp
                          with_reducible rfl
                         rotate_left
                         ·simp only [Act.put, List.setIfInBounds_toArray, List.set_cons_zero, List.set_cons_succ, i64_w, i32_w]
                          rfl
                         refine last_ (i := 18) (N := none) #[true, true, true, true, true, true, true, true, true, true, true, true, true, true, true, true, true, true, true] rfl rfl (one_of HT_.out (by kernel_rfl)) (by decide) (fun K hK => ?_)
                         refine skip_ (w1 := ?_) (by rfl) rfl ?_ ?_
                         rotate_left
                         ·go_simp
                          rfl
                         refine hK.out _ _ ?_
                         clear hK K
                         refine done_ (done_of HT_.out (by kernel_rfl)) ?_
                         try go_wp2
                         go_roundg k5
                         case measure => have := HJ8.out; have := HK2.out; have := HJ23.out; have := HJ28.out; have := HK5.out; omega
                         case rel => exact ⟨(y371), (wrap64 (x13_5 + 1)), sQ, H', ⟨by have := HJ8.out; have := HK2.out; have := HJ23.out; have := HJ28.out; have := HK5.out; omega⟩, ⟨by (with_reducible repeat (first | apply Kd.R_alloc | apply Kd.R_drewN | apply Kd.R_drew)); exact HQ41.out⟩, ⟨by repeat (first | (with_reducible first | exact HB.out | apply below_alloc | apply pw_below_drewN | apply below_drew1 | refine below_set ?_ GB39.out) | exact HB.out)⟩⟩
                        ·rw [if_neg c38] at H
                         exact absurd H (by simp)
                       ·rw [if_neg c37] at H
                        exact absurd H (by simp)
                      ·rw [if_neg c35] at H
                       exact absurd H (by simp)
                     ·rw [if_neg c34] at H
                      exact absurd H (by simp)
                    ·rw [if_neg c33] at H
                     exact absurd H (by simp)
                   ·rw [if_neg c32] at H
                    exact absurd H (by simp)
                  ·rw [if_neg c31] at H
                   have c31b0 : decide (x13_5 < x12_28) = false := decide_eq_false c31
                   clear c31
                   have H' := Aside0.mk H
                   clear H
                   go_wp2
                   go_roundg k5
                   case measure => have := HJ8.out; have := HK2.out; have := HJ23.out; have := HJ28.out; have := HK5.out; omega
                   case rel => exact ⟨(x10_5), (wrap64 (x11_2 + 1)), sQ, H', ⟨by have := HJ8.out; have := HK2.out; have := HJ23.out; have := HJ28.out; have := HK5.out; omega⟩, ⟨by (with_reducible repeat (first | apply Kd.R_alloc | apply Kd.R_drewN | apply Kd.R_drew)); exact HO_10.out⟩, ⟨bQ⟩⟩
             ·rw [if_neg c28] at H
              exact absurd H (by simp)
            ·rw [if_neg c27] at H
             exact absurd H (by simp)
           ·replace c26 := Bool.eq_false_iff.mpr c26
            subst c26
            rw [if_neg (show ¬ (false = true) by decide)] at H
            simp only [Option.some.injEq, Prod.mk.injEq] at H
            obtain ⟨rfl, rfl⟩ := H
            go_wp2
            go_ret2
            exact ⟨_, eQ, by (with_reducible repeat (first | apply Kd.R_alloc | apply Kd.R_drewN | apply Kd.R_drew)); exact HO_10.out, bQ⟩
      ·rw [if_neg c20] at H
       exact absurd H (by simp)
  ·replace c8 := Bool.eq_false_iff.mpr c8
   subst c8
   rw [if_neg (show ¬ (false = true) by decide)] at H
   simp only [Option.some.injEq, Prod.mk.injEq] at H
   obtain ⟨rfl, rfl⟩ := H
   go_enter Tryz.func17, Tryz.ntmps17
   go_wp2_with (first | ((with_reducible refine gate_callee (f := 40) rfl ?_); refine goesL_ (some 15) rfl rfl Tryz.func40 (by kernel_rfl) rfl #[.slice A0 l0.length c0] rfl aQ ?_; (with_reducible refine (berylref20_blocks.calls _ _ l0 t357 _ ?side1 ?side2 A5.out).mono ?_); (case side1 => exact cQ HR0.out); (case side2 => exact HC0.out); rintro e w' ⟨rfl, ⟨nd, rfl⟩⟩; refine ⟨_, rfl, ?_⟩) | ((with_reducible refine gate_callee (f := 41) rfl ?_); refine goesL_ (some 19) rfl rfl Tryz.func41 (by kernel_rfl) rfl #[.slice A0 l0.length c0, .slice A1 l1.length c1] rfl aQ ?_; (with_reducible refine (berylref20_fine.calls _ _ l0 _ _ l1 false _ ?side1 ?side2 ?side3 ?side4 A7.out).mono ?_); (case side1 => exact cQ HR0.out); (case side2 => exact HC0.out); (case side3 => exact cQ HR1.out); (case side4 => exact HC1.out); rintro e w' ⟨rfl, ⟨nd, rfl⟩⟩; refine ⟨_, rfl, ?_⟩))
   go_ret2
   exact ⟨_, eQ, by first | exact Kd.R_nil _ _ _ _ _ | exact Kd.N_nil _ _ _ _ _ | exact Kd.V_nil _ _ _ _ _ | exact Kd.Q_nil _ _ _ _ _ | exact Kd.S_nil _ _ _ _ _, bQ⟩
def berylref20_Do.f (k : Nat) (l0 : List Int) (l1 : List (S42)) : Option (List Int × Int) := (berylref20_Torn.f k l0 l1 (l1.length : Int) 0).bind fun bt372 => (some (bt372.1, bt372.2))
theorem berylref20_Do.mono : ∀ a0 a1 k, LeO (berylref20_Do.f k a0 a1) (berylref20_Do.f (k + 1) a0 a1) := by
 intro a0 a1 k
 unfold berylref20_Do.f
 repeat' first
   | (with_reducible exact berylref20_Torn.mono _ _ _ _ _)
   | (with_reducible exact LeO.refl _)
   | (with_reducible exact LeO.none _)
   | (with_reducible refine LeO.ite ?_ ?_)
   | (with_reducible refine LeO.bind ?_ (fun _ => ?_))
   | exact berylref20_Torn.mono _ _ _ _ _
   | exact LeO.none _
   | refine LeO.ite ?_ ?_
   | refine LeO.bind ?_ (fun _ => ?_)
set_option maxHeartbeats 8000000 in
set_option maxRecDepth 100000 in
theorem berylref20_Do.calls (k : Nat) (A0 : Option Addr) (c0 : Nat) (l0 : List Int) (A1 : Option Addr) (c1 : Nat) (l1 : List (S42)) (r1 : List Int) (r2 : Int) (w : World) (hr0 : Kd.C (Kd.int .u8) w A0 l0.length l0) (hc0 : l0.length ≤ c0) (hr1 : Kd.C k42 w A1 l1.length l1) (hc1 : l1.length ≤ c1) (h : berylref20_Do.f k l0 l1 = some (r1, r2)) :
  Calls Tryz.prog 15 #[.slice A0 l0.length c0, .slice A1 l1.length c1] w fun e w' => ∃ v0_ : Value, e = .returned (.tuple #[v0_, .int .i64 r2]) ∧ Kd.R (Kd.int .u8) 5 w' w.heap.size (fun _ => True) v0_ r1 ∧ Below w.heap.size w w' := by
 have HR0 := Aside0.mk hr0
 have HC0 := Aside0.mk hc0
 clear hr0 hc0
 have HR1 := Aside0.mk hr1
 have HC1 := Aside0.mk hc1
 clear hr1 hc1
 have HB := Aside0.mk (Below.refl w.heap.size w)
 have H : ((berylref20_Torn.f k l0 l1 (l1.length : Int) 0).bind fun bt372 => (some (bt372.1, bt372.2))) = some (r1, r2) := h
 clear h
 replace H := Option.bind_eq_some_iff.mp H
 obtain ⟨⟨t372, t373⟩, A30, H⟩ := H
 try dsimp only at H
 have A3 := Aside0.mk A30
 clear A30
 simp only [Option.some.injEq, Prod.mk.injEq] at H
 obtain ⟨rfl, rfl⟩ := H
 go_enter Tryz.func15, Tryz.ntmps15
 go_wp2_with (first | ((with_reducible refine gate_callee (f := 17) rfl ?_); refine goesL_ (some 10) rfl rfl Tryz.func17 (by kernel_rfl) rfl #[.slice A0 l0.length c0, .slice A1 l1.length c1, .int .i64 (l1.length : Int), .int .i64 0] rfl aQ ?_; (with_reducible refine (berylref20_Torn.calls k _ _ l0 _ _ l1 (l1.length : Int) 0 t372 t373 _ ?side1 ?side2 ?side3 ?side4 A3.out).mono ?_); (case side1 => exact cQ HR0.out); (case side2 => exact HC0.out); (case side3 => exact cQ HR1.out); (case side4 => exact HC1.out); rintro e w4 ⟨v374, rfl, ho0, hb⟩; refine ⟨_, rfl, ?_⟩; have n0_ := Aside0.mk (Kd.R_lower ho0 (below_size bQ)); have n1_ := Aside0.mk (below_step bQ hb); clear HB; have HO375 := n0_; have HB := n1_; clear n0_ n1_; (try clear hb); (try clear hb2); (try clear hk); (try clear hi); (try clear ho0)))
 go_ret2
 exact ⟨_, eQ, by (with_reducible repeat (first | apply Kd.R_alloc | apply Kd.R_drewN | apply Kd.R_drew)); exact HO375.out, bQ⟩
attribute [local go_sem] max2_int min2_int max_two min_two max_three min_three max_four min_four
def beryllaw20_slight.l0 : Nat → List (S42) → Int → Int → Option (Bool)
 | 0, _, _, _ => none
 | k + 1, x0, x3, x4 => if x4 < (x0.length : Int) then (if 0 ≤ x4 then (beryllaw20_slight.l0 k x0 (wrap64 (x3 + (((rd_T42 x0 x4).f1).length : Int))) (wrap64 (x4 + 1))) else (none)) else (if (x0.length : Int) ≤ 300 then (some (decide (x3 ≤ 20000))) else (some false))
def beryllaw20_slight.f (k : Nat) (l0 : List (S42)) : Option (Bool) := beryllaw20_slight.l0 k l0 0 0
theorem beryllaw20_slight.mono_l : ∀ k, (∀ y0 y1 y2, LeO (beryllaw20_slight.l0 k y0 y1 y2) (beryllaw20_slight.l0 (k + 1) y0 y1 y2))
 | 0 => fun _ _ _ r h => by simp [beryllaw20_slight.l0] at h
 | k + 1 => by
  have ih0 := beryllaw20_slight.mono_l k
  ·intro y0 y1 y2
   unfold beryllaw20_slight.l0
   repeat' first
   | (with_reducible exact ih0 _ _ _)
   | (with_reducible exact LeO.refl _)
   | (with_reducible exact LeO.none _)
   | (with_reducible refine LeO.ite ?_ ?_)
   | (with_reducible refine LeO.bind ?_ (fun _ => ?_))
   | exact ih0 _ _ _
   | exact LeO.none _
   | refine LeO.ite ?_ ?_
   | refine LeO.bind ?_ (fun _ => ?_)
theorem beryllaw20_slight.mono : ∀ a0 k, LeO (beryllaw20_slight.f k a0) (beryllaw20_slight.f (k + 1) a0) := by
 intro a0 k
 have ih0 := beryllaw20_slight.mono_l k
 unfold beryllaw20_slight.f
 repeat' first
   | (with_reducible exact ih0 _ _ _)
   | (with_reducible exact LeO.refl _)
   | (with_reducible exact LeO.none _)
   | (with_reducible refine LeO.ite ?_ ?_)
   | (with_reducible refine LeO.bind ?_ (fun _ => ?_))
   | exact ih0 _ _ _
   | exact LeO.none _
   | refine LeO.ite ?_ ?_
   | refine LeO.bind ?_ (fun _ => ?_)
set_option maxHeartbeats 8000000 in
set_option maxRecDepth 100000 in
theorem beryllaw20_slight.calls (k : Nat) (A0 : Option Addr) (c0 : Nat) (l0 : List (S42)) (r : Bool) (w : World) (hr0 : Kd.C k42 w A0 l0.length l0) (hc0 : l0.length ≤ c0) (h : beryllaw20_slight.f k l0 = some r) :
  Calls Tryz.prog 6 #[.slice A0 l0.length c0] w fun e w' => e = .returned (.bool r) ∧ Drawn0 w w' := by
 have HR0 := Aside0.mk hr0
 have HC0 := Aside0.mk hc0
 clear hr0 hc0
 have H : (beryllaw20_slight.l0 k l0 0 0) = some r := h
 clear h
 have H' := Aside0.mk H
 clear H
 go_enter Tryz.func6, Tryz.ntmps6
 go_wp2
 go_loopg [3, 4] k (fun kq v3 v4 w' => ∃ (x3_1 : Int) (x4_1 : Int), v3 = .int .i64 x3_1 ∧ v4 = .int .i64 x4_1 ∧ Aside0 (beryllaw20_slight.l0 kq l0 x3_1 x4_1 = some r) ∧ Aside0 (kq ≤ k) ∧ Drawn0 w w')
 case atStart => exact ⟨(0), (0), sQ, sQ, H', ⟨Nat.le_refl _⟩, dQ⟩
 case round =>
  clear H'
  obtain ⟨x3_1, x4_1, rfl, rfl, HA, HK1, ⟨m1, rfl⟩⟩ := hrel
  cases gk with
  | zero => exact absurd HA.out (by simp [beryllaw20_slight.l0])
  | succ k1 =>
   have H := HA.out
   clear HA
   simp only [beryllaw20_slight.l0] at H
   by_cases c2 : x4_1 < (l0.length : Int)
   ·rw [if_pos c2] at H
    have c2b0 : decide (x4_1 < (l0.length : Int)) = true := decide_eq_true c2
    clear c2
    by_cases c3 : 0 ≤ x4_1
    ·rw [if_pos c3] at H
     have c3b0 : decide (0 ≤ x4_1) = true := decide_eq_true c3
     clear c3
     have H' := Aside0.mk H
     clear H
     have p168 : 0 ≤ (x4_1 : Int) := of_decide_eq_true hQ
     have q168 : x4_1 < (l0.length : Int) := of_decide_eq_true hQ
     obtain ⟨ad168, A168_1, c168_1, e168, hx168_0, hx168_1, hl168_1, hi168_1⟩ := at_T42 HR0.out x4_1 p168 q168
     cases e168
     have HR168_1 := Aside0.mk hi168_1
     have HC168_1 := Aside0.mk hl168_1
     clear hi168_1 hl168_1
     replace p168 := eq_true p168
     replace q168 := eq_true q168
     go_wp2
     go_roundg k1
     case measure => have := HK1.out; omega
     case rel => exact ⟨(wrap64 (x3_1 + (((rd_T42 l0 x4_1).f1).length : Int))), (wrap64 (x4_1 + 1)), sQ, sQ, H', ⟨by have := HK1.out; omega⟩, dQ⟩
    ·rw [if_neg c3] at H
     exact absurd H (by simp)
   ·rw [if_neg c2] at H
    have c2b0 : decide (x4_1 < (l0.length : Int)) = false := decide_eq_false c2
    clear c2
    by_cases c4 : (l0.length : Int) ≤ 300
    ·rw [if_pos c4] at H
     have c4b0 : decide ((l0.length : Int) ≤ 300) = true := decide_eq_true c4
     have c4b1 : decide (l0.length ≤ 300) = true := decide_eq_true (by omega)
     clear c4
     obtain rfl := Option.some.inj H
     go_wp2
     go_ret
     exact ⟨sQ, dQ⟩
    ·rw [if_neg c4] at H
     have c4b0 : decide ((l0.length : Int) ≤ 300) = false := decide_eq_false c4
     have c4b1 : decide (l0.length ≤ 300) = false := decide_eq_false (by omega)
     clear c4
     obtain rfl := Option.some.inj H
     go_wp2
     go_ret
     exact ⟨sQ, dQ⟩
end Go.Proofs.YtcdpkdehogcjnaaGreat.Print
