import Derived.Test.YtcdpkdehogcjnaaGreatR0
set_option linter.unusedVariables false
set_option linter.unusedSimpArgs false
namespace Go.Proofs.YtcdpkdehogcjnaaGreat.Print
open Go.RowKit Go.Proofs.YtcdpkdehogcjnaaGreatW.PrintWords Go.Proofs.YtcdpkdehogcjnaaGreatW.PrintLast Go.Proofs.YtcdpkdehogcjnaaGreatW.PrintMore
attribute [local go_sem] max2_int min2_int max_two min_two max_three min_three max_four min_four
def berylref20_SamePuts.l0 : Nat → List (S42) → List (S42) → Int → Option (Bool)
 | 0, _, _, _ => none
 | k + 1, x0, x1, x5 => if x5 < (x0.length : Int) then (if 0 ≤ x5 then (if x5 < (x1.length : Int) then (if ((rd_T42 x0 x5).f0) = ((rd_T42 x1 x5).f0) then (if (strOfNums ((rd_T42 x0 x5).f1)).toList = (strOfNums ((rd_T42 x1 x5).f1)).toList then (berylref20_SamePuts.l0 k x0 x1 (wrap64 (x5 + 1))) else (some false)) else (some false)) else (none)) else (none)) else (some true)
def berylref20_SamePuts.f (k : Nat) (l0 : List (S42)) (l1 : List (S42)) : Option (Bool) := if (l0.length : Int) = (l1.length : Int) then (berylref20_SamePuts.l0 k l0 l1 0) else (some false)
theorem berylref20_SamePuts.mono_l : ∀ k, (∀ y0 y1 y2, LeO (berylref20_SamePuts.l0 k y0 y1 y2) (berylref20_SamePuts.l0 (k + 1) y0 y1 y2))
 | 0 => fun _ _ _ r h => by simp [berylref20_SamePuts.l0] at h
 | k + 1 => by
  have ih0 := berylref20_SamePuts.mono_l k
  ·intro y0 y1 y2
   unfold berylref20_SamePuts.l0
   repeat' first
   | (with_reducible exact ih0 _ _ _)
   | (with_reducible exact LeO.refl _)
   | (with_reducible exact LeO.none _)
   | (with_reducible refine LeO.ite ?_ ?_)
   | (with_reducible refine LeO.bind ?_ (fun _ => ?_))
   | exact ih0 _ _ _
   | exact LeO.none _
   | refine LeO.ite ?_ ?_
   | refine LeO.bind ?_ (fun _ => ?_)
theorem berylref20_SamePuts.mono : ∀ a0 a1 k, LeO (berylref20_SamePuts.f k a0 a1) (berylref20_SamePuts.f (k + 1) a0 a1) := by
 intro a0 a1 k
 have ih0 := berylref20_SamePuts.mono_l k
 unfold berylref20_SamePuts.f
 repeat' first
   | (with_reducible exact ih0 _ _ _)
   | (with_reducible exact LeO.refl _)
   | (with_reducible exact LeO.none _)
   | (with_reducible refine LeO.ite ?_ ?_)
   | (with_reducible refine LeO.bind ?_ (fun _ => ?_))
   | exact ih0 _ _ _
   | exact LeO.none _
   | refine LeO.ite ?_ ?_
   | refine LeO.bind ?_ (fun _ => ?_)
set_option maxHeartbeats 8000000 in
set_option maxRecDepth 100000 in
theorem berylref20_SamePuts.calls (k : Nat) (A0 : Option Addr) (c0 : Nat) (l0 : List (S42)) (A1 : Option Addr) (c1 : Nat) (l1 : List (S42)) (r : Bool) (w : World) (hr0 : Kd.C k42 w A0 l0.length l0) (hc0 : l0.length ≤ c0) (hr1 : Kd.C k42 w A1 l1.length l1) (hc1 : l1.length ≤ c1) (h : berylref20_SamePuts.f k l0 l1 = some r) :
  Calls Tryz.prog 11 #[.slice A0 l0.length c0, .slice A1 l1.length c1] w fun e w' => e = .returned (.bool r) ∧ Drawn0 w w' := by
 have HR0 := Aside0.mk hr0
 have HC0 := Aside0.mk hc0
 clear hr0 hc0
 have HR1 := Aside0.mk hr1
 have HC1 := Aside0.mk hc1
 clear hr1 hc1
 have H : (if (l0.length : Int) = (l1.length : Int) then (berylref20_SamePuts.l0 k l0 l1 0) else (some false)) = some r := h
 clear h
 by_cases c3 : (l0.length : Int) = (l1.length : Int)
 ·rw [if_pos c3] at H
  have c3b0 : ((l0.length : Int) == (l1.length : Int)) = true := beq_iff_eq.mpr c3
  have c3b1 : ((l0.length : Int) != (l1.length : Int)) = false := bne_eq_false_iff_eq.mpr c3
  have c3b2 : (l0.length == l1.length) = true := by first | simpa using c3 | (simp at c3 ⊢; omega)
  clear c3
  have H' := Aside0.mk H
  clear H
  go_enter Tryz.func11, Tryz.ntmps11
  go_wp2
  repeat (go_quiet (fail); try go_wp2)
  go_loopg [5] k (fun kq v5 w' => ∃ (x5_1 : Int), v5 = .int .i64 x5_1 ∧ Aside0 (berylref20_SamePuts.l0 kq l0 l1 x5_1 = some r) ∧ Aside0 (kq ≤ k) ∧ Drawn0 w w')
  case atStart => exact ⟨(0), (by first | rfl | (simp; done) | (simp [*]; done)), H', ⟨Nat.le_refl _⟩, by repeat (first | exact Drawn0.refl _ | apply Drawn0.step)⟩
  case round =>
   clear H'
   try clear c1
   try clear p2
   try clear c3
   try clear c3b0
   try clear c3b1
   try clear c3b2
   obtain ⟨x5_1, rfl, HA, HK1, ⟨m1, rfl⟩⟩ := hrel
   cases gk with
   | zero => exact absurd HA.out (by simp [berylref20_SamePuts.l0])
   | succ k1 =>
    have H := HA.out
    clear HA
    simp only [berylref20_SamePuts.l0] at H
    by_cases c4 : x5_1 < (l0.length : Int)
    ·rw [if_pos c4] at H
     have c4b0 : decide (x5_1 < (l0.length : Int)) = true := decide_eq_true c4
     clear c4
     by_cases c5 : 0 ≤ x5_1
     ·rw [if_pos c5] at H
      have c5b0 : decide (0 ≤ x5_1) = true := decide_eq_true c5
      clear c5
      by_cases c6 : x5_1 < (l1.length : Int)
      ·rw [if_pos c6] at H
       have c6b0 : decide (x5_1 < (l1.length : Int)) = true := decide_eq_true c6
       clear c6
       by_cases c7 : ((rd_T42 l0 x5_1).f0) = ((rd_T42 l1 x5_1).f0)
       ·rw [if_pos c7] at H
        have c7b0 : (((rd_T42 l0 x5_1).f0) == ((rd_T42 l1 x5_1).f0)) = true := beq_iff_eq.mpr c7
        have c7b1 : (((rd_T42 l0 x5_1).f0) != ((rd_T42 l1 x5_1).f0)) = false := bne_eq_false_iff_eq.mpr c7
        clear c7
        by_cases c8 : (strOfNums ((rd_T42 l0 x5_1).f1)).toList = (strOfNums ((rd_T42 l1 x5_1).f1)).toList
        ·rw [if_pos c8] at H
         have c8b0 : ((strOfNums ((rd_T42 l0 x5_1).f1)).toList == (strOfNums ((rd_T42 l1 x5_1).f1)).toList) = true := beq_iff_eq.mpr c8
         have c8b1 : ((strOfNums ((rd_T42 l0 x5_1).f1)).toList != (strOfNums ((rd_T42 l1 x5_1).f1)).toList) = false := bne_eq_false_iff_eq.mpr c8
         clear c8
         have H' := Aside0.mk H
         clear H
         have p347 : 0 ≤ (x5_1 : Int) := of_decide_eq_true (by first | (with_reducible assumption) | assumption)
         have q347 : x5_1 < (l0.length : Int) := of_decide_eq_true (by first | (with_reducible assumption) | assumption)
         obtain ⟨ad347, A347_1, c347_1, e347, hx347_0, hx347_1, hl347_1, hi347_1⟩ := at_T42 HR0.out x5_1 p347 q347
         cases e347
         have HR347_1 := Aside0.mk hi347_1
         have HC347_1 := Aside0.mk hl347_1
         clear hi347_1 hl347_1
         replace p347 := eq_true p347
         replace q347 := eq_true q347
         have p348 : 0 ≤ (x5_1 : Int) := of_decide_eq_true (by first | (with_reducible assumption) | assumption)
         have q348 : x5_1 < (l1.length : Int) := of_decide_eq_true (by first | (with_reducible assumption) | assumption)
         obtain ⟨ad348, A348_1, c348_1, e348, hx348_0, hx348_1, hl348_1, hi348_1⟩ := at_T42 HR1.out x5_1 p348 q348
         cases e348
         have HR348_1 := Aside0.mk hi348_1
         have HC348_1 := Aside0.mk hl348_1
         clear hi348_1 hl348_1
         replace p348 := eq_true p348
         replace q348 := eq_true q348
         have p349 : 0 ≤ (x5_1 : Int) := of_decide_eq_true (by first | (with_reducible assumption) | assumption)
         have q349 : x5_1 < (l0.length : Int) := of_decide_eq_true (by first | (with_reducible assumption) | assumption)
         obtain ⟨ad349, A349_1, c349_1, e349, hx349_0, hx349_1, hl349_1, hi349_1⟩ := at_T42 HR0.out x5_1 p349 q349
         obtain rfl : ad347 = ad349 := (by injection e349)
         have HR349_1 := Aside0.mk hi349_1
         have HC349_1 := Aside0.mk hl349_1
         clear hi349_1 hl349_1
         replace p349 := eq_true p349
         replace q349 := eq_true q349
         have ea_ := Option.some.inj (hx347_1.symm.trans hx349_1)
         injection ea_ with ea_ en_ ec_
         subst ea_
         subst ec_
         clear en_
         have hcv9 := Kd.C_string (P := Tryz.prog) (A := A347_1) (c := c347_1) Tryz.underlying22 Tryz.underlying5 Tryz.underlying9 HR349_1.out
         have hcv9d := fun n_ : Nat => Kd.C_string (P := Tryz.prog) (A := A347_1) (c := c347_1) Tryz.underlying22 Tryz.underlying5 Tryz.underlying9 (Kd.C_drewN HR349_1.out n_)
         have hcv9e := fun n_ m_ : Nat => Kd.C_string (P := Tryz.prog) (A := A347_1) (c := c347_1) Tryz.underlying22 Tryz.underlying5 Tryz.underlying9 (Kd.C_drewN (Kd.C_drewN HR349_1.out n_) m_)
         have p350 : 0 ≤ (x5_1 : Int) := of_decide_eq_true (by first | (with_reducible assumption) | assumption)
         have q350 : x5_1 < (l1.length : Int) := of_decide_eq_true (by first | (with_reducible assumption) | assumption)
         obtain ⟨ad350, A350_1, c350_1, e350, hx350_0, hx350_1, hl350_1, hi350_1⟩ := at_T42 HR1.out x5_1 p350 q350
         obtain rfl : ad348 = ad350 := (by injection e350)
         have HR350_1 := Aside0.mk hi350_1
         have HC350_1 := Aside0.mk hl350_1
         clear hi350_1 hl350_1
         replace p350 := eq_true p350
         replace q350 := eq_true q350
         have ea_ := Option.some.inj (hx348_1.symm.trans hx350_1)
         injection ea_ with ea_ en_ ec_
         subst ea_
         subst ec_
         clear en_
         have hcv10 := Kd.C_string (P := Tryz.prog) (A := A348_1) (c := c348_1) Tryz.underlying22 Tryz.underlying5 Tryz.underlying9 HR350_1.out
         have hcv10d := fun n_ : Nat => Kd.C_string (P := Tryz.prog) (A := A348_1) (c := c348_1) Tryz.underlying22 Tryz.underlying5 Tryz.underlying9 (Kd.C_drewN HR350_1.out n_)
         have hcv10e := fun n_ m_ : Nat => Kd.C_string (P := Tryz.prog) (A := A348_1) (c := c348_1) Tryz.underlying22 Tryz.underlying5 Tryz.underlying9 (Kd.C_drewN (Kd.C_drewN HR350_1.out n_) m_)
         go_wp2
         repeat (go_quiet (fail); try go_wp2)
         go_roundg k1
         case measure => have := HK1.out; omega
         case rel => exact ⟨(wrap64 (x5_1 + 1)), (by first | rfl | (simp; done) | (simp [*]; done)), H', ⟨by have := HK1.out; omega⟩, by repeat (first | exact Drawn0.refl _ | apply Drawn0.step)⟩
        ·rw [if_neg c8] at H
         have c8b0 : ((strOfNums ((rd_T42 l0 x5_1).f1)).toList == (strOfNums ((rd_T42 l1 x5_1).f1)).toList) = false := beq_eq_false_iff_ne.mpr c8
         have c8b1 : ((strOfNums ((rd_T42 l0 x5_1).f1)).toList != (strOfNums ((rd_T42 l1 x5_1).f1)).toList) = true := bne_iff_ne.mpr c8
         obtain rfl := Option.some.inj H
         have p347 : 0 ≤ (x5_1 : Int) := of_decide_eq_true (by first | (with_reducible assumption) | assumption)
         have q347 : x5_1 < (l0.length : Int) := of_decide_eq_true (by first | (with_reducible assumption) | assumption)
         obtain ⟨ad347, A347_1, c347_1, e347, hx347_0, hx347_1, hl347_1, hi347_1⟩ := at_T42 HR0.out x5_1 p347 q347
         cases e347
         have HR347_1 := Aside0.mk hi347_1
         have HC347_1 := Aside0.mk hl347_1
         clear hi347_1 hl347_1
         replace p347 := eq_true p347
         replace q347 := eq_true q347
         have p348 : 0 ≤ (x5_1 : Int) := of_decide_eq_true (by first | (with_reducible assumption) | assumption)
         have q348 : x5_1 < (l1.length : Int) := of_decide_eq_true (by first | (with_reducible assumption) | assumption)
         obtain ⟨ad348, A348_1, c348_1, e348, hx348_0, hx348_1, hl348_1, hi348_1⟩ := at_T42 HR1.out x5_1 p348 q348
         cases e348
         have HR348_1 := Aside0.mk hi348_1
         have HC348_1 := Aside0.mk hl348_1
         clear hi348_1 hl348_1
         replace p348 := eq_true p348
         replace q348 := eq_true q348
         have p349 : 0 ≤ (x5_1 : Int) := of_decide_eq_true (by first | (with_reducible assumption) | assumption)
         have q349 : x5_1 < (l0.length : Int) := of_decide_eq_true (by first | (with_reducible assumption) | assumption)
         obtain ⟨ad349, A349_1, c349_1, e349, hx349_0, hx349_1, hl349_1, hi349_1⟩ := at_T42 HR0.out x5_1 p349 q349
         obtain rfl : ad347 = ad349 := (by injection e349)
         have HR349_1 := Aside0.mk hi349_1
         have HC349_1 := Aside0.mk hl349_1
         clear hi349_1 hl349_1
         replace p349 := eq_true p349
         replace q349 := eq_true q349
         have ea_ := Option.some.inj (hx347_1.symm.trans hx349_1)
         injection ea_ with ea_ en_ ec_
         subst ea_
         subst ec_
         clear en_
         have hcv11 := Kd.C_string (P := Tryz.prog) (A := A347_1) (c := c347_1) Tryz.underlying22 Tryz.underlying5 Tryz.underlying9 HR349_1.out
         have hcv11d := fun n_ : Nat => Kd.C_string (P := Tryz.prog) (A := A347_1) (c := c347_1) Tryz.underlying22 Tryz.underlying5 Tryz.underlying9 (Kd.C_drewN HR349_1.out n_)
         have hcv11e := fun n_ m_ : Nat => Kd.C_string (P := Tryz.prog) (A := A347_1) (c := c347_1) Tryz.underlying22 Tryz.underlying5 Tryz.underlying9 (Kd.C_drewN (Kd.C_drewN HR349_1.out n_) m_)
         have p350 : 0 ≤ (x5_1 : Int) := of_decide_eq_true (by first | (with_reducible assumption) | assumption)
         have q350 : x5_1 < (l1.length : Int) := of_decide_eq_true (by first | (with_reducible assumption) | assumption)
         obtain ⟨ad350, A350_1, c350_1, e350, hx350_0, hx350_1, hl350_1, hi350_1⟩ := at_T42 HR1.out x5_1 p350 q350
         obtain rfl : ad348 = ad350 := (by injection e350)
         have HR350_1 := Aside0.mk hi350_1
         have HC350_1 := Aside0.mk hl350_1
         clear hi350_1 hl350_1
         replace p350 := eq_true p350
         replace q350 := eq_true q350
         have ea_ := Option.some.inj (hx348_1.symm.trans hx350_1)
         injection ea_ with ea_ en_ ec_
         subst ea_
         subst ec_
         clear en_
         have hcv12 := Kd.C_string (P := Tryz.prog) (A := A348_1) (c := c348_1) Tryz.underlying22 Tryz.underlying5 Tryz.underlying9 HR350_1.out
         have hcv12d := fun n_ : Nat => Kd.C_string (P := Tryz.prog) (A := A348_1) (c := c348_1) Tryz.underlying22 Tryz.underlying5 Tryz.underlying9 (Kd.C_drewN HR350_1.out n_)
         have hcv12e := fun n_ m_ : Nat => Kd.C_string (P := Tryz.prog) (A := A348_1) (c := c348_1) Tryz.underlying22 Tryz.underlying5 Tryz.underlying9 (Kd.C_drewN (Kd.C_drewN HR350_1.out n_) m_)
         go_wp2
         repeat (go_quiet (fail); try go_wp2)
         go_ret
         exact ⟨by first | rfl | (simp; done) | (simp [*]; done), by repeat (first | exact Drawn0.refl _ | apply Drawn0.step)⟩
       ·rw [if_neg c7] at H
        have c7b0 : (((rd_T42 l0 x5_1).f0) == ((rd_T42 l1 x5_1).f0)) = false := beq_eq_false_iff_ne.mpr c7
        have c7b1 : (((rd_T42 l0 x5_1).f0) != ((rd_T42 l1 x5_1).f0)) = true := bne_iff_ne.mpr c7
        obtain rfl := Option.some.inj H
        have p347 : 0 ≤ (x5_1 : Int) := of_decide_eq_true (by first | (with_reducible assumption) | assumption)
        have q347 : x5_1 < (l0.length : Int) := of_decide_eq_true (by first | (with_reducible assumption) | assumption)
        obtain ⟨ad347, A347_1, c347_1, e347, hx347_0, hx347_1, hl347_1, hi347_1⟩ := at_T42 HR0.out x5_1 p347 q347
        cases e347
        have HR347_1 := Aside0.mk hi347_1
        have HC347_1 := Aside0.mk hl347_1
        clear hi347_1 hl347_1
        replace p347 := eq_true p347
        replace q347 := eq_true q347
        have p348 : 0 ≤ (x5_1 : Int) := of_decide_eq_true (by first | (with_reducible assumption) | assumption)
        have q348 : x5_1 < (l1.length : Int) := of_decide_eq_true (by first | (with_reducible assumption) | assumption)
        obtain ⟨ad348, A348_1, c348_1, e348, hx348_0, hx348_1, hl348_1, hi348_1⟩ := at_T42 HR1.out x5_1 p348 q348
        cases e348
        have HR348_1 := Aside0.mk hi348_1
        have HC348_1 := Aside0.mk hl348_1
        clear hi348_1 hl348_1
        replace p348 := eq_true p348
        replace q348 := eq_true q348
        go_wp2
        repeat (go_quiet (fail); try go_wp2)
        go_ret
        exact ⟨by first | rfl | (simp; done) | (simp [*]; done), by repeat (first | exact Drawn0.refl _ | apply Drawn0.step)⟩
      ·rw [if_neg c6] at H
       exact absurd H (by simp)
     ·rw [if_neg c5] at H
      exact absurd H (by simp)
    ·rw [if_neg c4] at H
     have c4b0 : decide (x5_1 < (l0.length : Int)) = false := decide_eq_false c4
     clear c4
     obtain rfl := Option.some.inj H
     go_wp2
     repeat (go_quiet (fail); try go_wp2)
     go_ret
     exact ⟨by first | rfl | (simp; done) | (simp [*]; done), by repeat (first | exact Drawn0.refl _ | apply Drawn0.step)⟩
 ·rw [if_neg c3] at H
  have c3b0 : ((l0.length : Int) == (l1.length : Int)) = false := beq_eq_false_iff_ne.mpr c3
  have c3b1 : ((l0.length : Int) != (l1.length : Int)) = true := bne_iff_ne.mpr c3
  have c3b2 : (l0.length == l1.length) = false := by first | simpa using c3 | (simp at c3 ⊢; omega)
  obtain rfl := Option.some.inj H
  go_enter Tryz.func11, Tryz.ntmps11
  go_wp2
  repeat (go_quiet (fail); try go_wp2)
  go_ret
  exact ⟨by first | rfl | (simp; done) | (simp [*]; done), by repeat (first | exact Drawn0.refl _ | apply Drawn0.step)⟩
end Go.Proofs.YtcdpkdehogcjnaaGreat.Print
