import Derived.Test.YtcdpkdehogcjnaaPrint0
import Derived.Test.YtcdpkdehogcjnaaR3
import Derived.Test.YtcdpkdehogcjnaaR4
import Derived.Test.YtcdpkdehogcjnaaRB
import Derived.Test.YtcdpkdehogcjnaaRD
set_option linter.unusedVariables false
set_option linter.unusedSimpArgs false
-- written by wip/dev/pprint.py (over the kit's printer)
namespace Go.Proofs.Ytcdpkdehogcjnaa.Print
open Go.RowKit Go.Proofs.YtcdpkdehogcjnaaW.PrintWords Go.Proofs.YtcdpkdehogcjnaaW.PrintLast Go.Proofs.YtcdpkdehogcjnaaW.PrintMore
attribute [local go_sem] max2_int min2_int max_two min_two max_three min_three max_four min_four   -- for this text's walks alone
set_option linter.unusedVariables false
set_option linter.unusedSimpArgs false

/-! ### beryllaw20_DiskRoom: function 4 -/
mutual
def beryllaw20_DiskRoom.j0 : Nat → List Int → List (S62) → Bool → Bool → Option (Bool)
  | 0, _, _, _, _ => none
  | k + 1, x0, x1, x5, x27 => if x27 = true then (some x5) else ((disk_Room.f (wrap64 ((x0.length : Int) / 64))).bind fun bt189 => ((disk_Bytes.f k x1).bind fun bt191 => ((disk_Free.f x0).bind fun bt193 => ((disk_Version.f x0).bind fun bt197 => ((disk_Write.f x0 x1).bind fun bt199 => (if bt189.2 = 0 then (if bt193.2 = 0 then (if bt197.2 = 0 then (beryllaw20_DiskRoom.j1 k x5 bt189.1 bt191.1 bt191.2 bt193.1 bt197.1 bt199.1 bt199.2 (decide ((bt193.1.length : Int) < (wrap64 (Int.tdiv bt189.1 62))))) else (beryllaw20_DiskRoom.j1 k x5 bt189.1 bt191.1 bt191.2 bt193.1 bt197.1 bt199.1 bt199.2 true)) else (beryllaw20_DiskRoom.j1 k x5 bt189.1 bt191.1 bt191.2 bt193.1 bt197.1 bt199.1 bt199.2 true)) else (beryllaw20_DiskRoom.j1 k x5 bt189.1 bt191.1 bt191.2 bt193.1 bt197.1 bt199.1 bt199.2 true)))))))
def beryllaw20_DiskRoom.j1 : Nat → Bool → Int → Int → Int → List Int → Int → List (S34) → Int → Bool → Option (Bool)
  | 0, _, _, _, _, _, _, _, _, _ => none
  | k + 1, x5, x6, x8, x9, x10, x12, x14, x15, x73 => if x73 = true then (some false) else (if x9 = 0 then (if x8 > x6 then (beryllaw20_DiskRoom.j2 k x5 x8 x10 x14 x15 true) else (beryllaw20_DiskRoom.j2 k x5 x8 x10 x14 x15 (decide (x12 ≥ 1099511627776)))) else (if x5 = true then (some (x15 == 1)) else (some false)))
def beryllaw20_DiskRoom.j2 : Nat → Bool → Int → List Int → List (S34) → Int → Bool → Option (Bool)
  | 0, _, _, _, _, _, _ => none
  | k + 1, x5, x8, x10, x14, x15, x87 => if x87 = true then (if x5 = true then (some (x15 == 2)) else (some false)) else (if x15 = 0 then (beryllaw20_DiskRoom.j3 k x5 x10 x14 ((x14.length : Int) != (wrap64 ((wrap64 (Int.tdiv (wrap64 (x8 + 61)) 62)) + 1)))) else (beryllaw20_DiskRoom.j3 k x5 x10 x14 true))
def beryllaw20_DiskRoom.j3 : Nat → Bool → List Int → List (S34) → Bool → Option (Bool)
  | 0, _, _, _, _ => none
  | k + 1, x5, x10, x14, x103 => if x103 = true then (some false) else (beryllaw20_DiskRoom.l0 k x5 x10 x14 0)
def beryllaw20_DiskRoom.l0 : Nat → Bool → List Int → List (S34) → Int → Option (Bool)
  | 0, _, _, _, _ => none
  | k + 1, x5, x10, x14, x16 => if x16 < (x14.length : Int) then (if 0 ≤ x16 then (if (((rd_T34 x14 x16).f1).length : Int) = 64 then (if x16 = (wrap64 ((x14.length : Int) - 1)) then (if ((rd_T34 x14 x16).f0) < 0 then (some false) else (if ((rd_T34 x14 x16).f0) > 1 then (some false) else (if (x16 = (wrap64 ((x14.length : Int) - 1))) then (beryllaw20_DiskRoom.l0 k x5 x10 x14 (wrap64 (x16 + 1))) else ((beryllaw20_has.f k x10 ((rd_T34 x14 x16).f0)).bind fun t207 => (if t207 = true then (beryllaw20_DiskRoom.l0 k x5 x10 x14 (wrap64 (x16 + 1))) else (some false)))))) else (if (x16 = (wrap64 ((x14.length : Int) - 1))) then (beryllaw20_DiskRoom.l0 k x5 x10 x14 (wrap64 (x16 + 1))) else ((beryllaw20_has.f k x10 ((rd_T34 x14 x16).f0)).bind fun t209 => (if t209 = true then (beryllaw20_DiskRoom.l0 k x5 x10 x14 (wrap64 (x16 + 1))) else (some false))))) else (some false)) else (none)) else (some x5)
end
def beryllaw20_DiskRoom.f (k : Nat) (l0 : List Int) (l1 : List (S62)) : Option (Bool) := (beryllaw20_awake.f).bind fun t186 => ((beryllaw20_few.f k l0 l1).bind fun t187 => (if t187 = true then ((disk_Check.f l0).bind fun t188 => (beryllaw20_DiskRoom.j0 k l0 l1 t186 (t188 != 0))) else (beryllaw20_DiskRoom.j0 k l0 l1 t186 true)))
theorem beryllaw20_DiskRoom.mono_l : ∀ k, (∀ y0 y1 y2 y3, LeO (beryllaw20_DiskRoom.j0 k y0 y1 y2 y3) (beryllaw20_DiskRoom.j0 (k + 1) y0 y1 y2 y3)) ∧ (∀ y0 y1 y2 y3 y4 y5 y6 y7 y8, LeO (beryllaw20_DiskRoom.j1 k y0 y1 y2 y3 y4 y5 y6 y7 y8) (beryllaw20_DiskRoom.j1 (k + 1) y0 y1 y2 y3 y4 y5 y6 y7 y8)) ∧ (∀ y0 y1 y2 y3 y4 y5, LeO (beryllaw20_DiskRoom.j2 k y0 y1 y2 y3 y4 y5) (beryllaw20_DiskRoom.j2 (k + 1) y0 y1 y2 y3 y4 y5)) ∧ (∀ y0 y1 y2 y3, LeO (beryllaw20_DiskRoom.j3 k y0 y1 y2 y3) (beryllaw20_DiskRoom.j3 (k + 1) y0 y1 y2 y3)) ∧ (∀ y0 y1 y2 y3, LeO (beryllaw20_DiskRoom.l0 k y0 y1 y2 y3) (beryllaw20_DiskRoom.l0 (k + 1) y0 y1 y2 y3))
  | 0 => ⟨fun _ _ _ _ r h => by simp [beryllaw20_DiskRoom.j0] at h, fun _ _ _ _ _ _ _ _ _ r h => by simp [beryllaw20_DiskRoom.j1] at h, fun _ _ _ _ _ _ r h => by simp [beryllaw20_DiskRoom.j2] at h, fun _ _ _ _ r h => by simp [beryllaw20_DiskRoom.j3] at h, fun _ _ _ _ r h => by simp [beryllaw20_DiskRoom.l0] at h⟩
  | k + 1 => by
    obtain ⟨ih0, ih1, ih2, ih3, ih4⟩ := beryllaw20_DiskRoom.mono_l k
    refine ⟨?_, ?_, ?_, ?_, ?_⟩
    · intro y0 y1 y2 y3
      unfold beryllaw20_DiskRoom.j0
      repeat' first
      | (with_reducible exact ih0 _ _ _ _)
      | (with_reducible exact ih1 _ _ _ _ _ _ _ _ _)
      | (with_reducible exact ih2 _ _ _ _ _ _)
      | (with_reducible exact ih3 _ _ _ _)
      | (with_reducible exact ih4 _ _ _ _)
      | (with_reducible exact beryllaw20_few.mono _ _ _)
      | (with_reducible exact beryllaw20_has.mono _ _ _)
      | (with_reducible exact disk_Bytes.mono _ _)
      | (with_reducible exact LeO.refl _)
      | (with_reducible exact LeO.none _)
      | (with_reducible refine LeO.ite ?_ ?_)
      | (with_reducible refine LeO.bind ?_ (fun _ => ?_))
      | exact ih0 _ _ _ _
      | exact ih1 _ _ _ _ _ _ _ _ _
      | exact ih2 _ _ _ _ _ _
      | exact ih3 _ _ _ _
      | exact ih4 _ _ _ _
      | exact beryllaw20_few.mono _ _ _
      | exact beryllaw20_has.mono _ _ _
      | exact disk_Bytes.mono _ _
      | exact LeO.none _
      | refine LeO.ite ?_ ?_
      | refine LeO.bind ?_ (fun _ => ?_)
    · intro y0 y1 y2 y3 y4 y5 y6 y7 y8
      unfold beryllaw20_DiskRoom.j1
      repeat' first
      | (with_reducible exact ih0 _ _ _ _)
      | (with_reducible exact ih1 _ _ _ _ _ _ _ _ _)
      | (with_reducible exact ih2 _ _ _ _ _ _)
      | (with_reducible exact ih3 _ _ _ _)
      | (with_reducible exact ih4 _ _ _ _)
      | (with_reducible exact beryllaw20_few.mono _ _ _)
      | (with_reducible exact beryllaw20_has.mono _ _ _)
      | (with_reducible exact disk_Bytes.mono _ _)
      | (with_reducible exact LeO.refl _)
      | (with_reducible exact LeO.none _)
      | (with_reducible refine LeO.ite ?_ ?_)
      | (with_reducible refine LeO.bind ?_ (fun _ => ?_))
      | exact ih0 _ _ _ _
      | exact ih1 _ _ _ _ _ _ _ _ _
      | exact ih2 _ _ _ _ _ _
      | exact ih3 _ _ _ _
      | exact ih4 _ _ _ _
      | exact beryllaw20_few.mono _ _ _
      | exact beryllaw20_has.mono _ _ _
      | exact disk_Bytes.mono _ _
      | exact LeO.none _
      | refine LeO.ite ?_ ?_
      | refine LeO.bind ?_ (fun _ => ?_)
    · intro y0 y1 y2 y3 y4 y5
      unfold beryllaw20_DiskRoom.j2
      repeat' first
      | (with_reducible exact ih0 _ _ _ _)
      | (with_reducible exact ih1 _ _ _ _ _ _ _ _ _)
      | (with_reducible exact ih2 _ _ _ _ _ _)
      | (with_reducible exact ih3 _ _ _ _)
      | (with_reducible exact ih4 _ _ _ _)
      | (with_reducible exact beryllaw20_few.mono _ _ _)
      | (with_reducible exact beryllaw20_has.mono _ _ _)
      | (with_reducible exact disk_Bytes.mono _ _)
      | (with_reducible exact LeO.refl _)
      | (with_reducible exact LeO.none _)
      | (with_reducible refine LeO.ite ?_ ?_)
      | (with_reducible refine LeO.bind ?_ (fun _ => ?_))
      | exact ih0 _ _ _ _
      | exact ih1 _ _ _ _ _ _ _ _ _
      | exact ih2 _ _ _ _ _ _
      | exact ih3 _ _ _ _
      | exact ih4 _ _ _ _
      | exact beryllaw20_few.mono _ _ _
      | exact beryllaw20_has.mono _ _ _
      | exact disk_Bytes.mono _ _
      | exact LeO.none _
      | refine LeO.ite ?_ ?_
      | refine LeO.bind ?_ (fun _ => ?_)
    · intro y0 y1 y2 y3
      unfold beryllaw20_DiskRoom.j3
      repeat' first
      | (with_reducible exact ih0 _ _ _ _)
      | (with_reducible exact ih1 _ _ _ _ _ _ _ _ _)
      | (with_reducible exact ih2 _ _ _ _ _ _)
      | (with_reducible exact ih3 _ _ _ _)
      | (with_reducible exact ih4 _ _ _ _)
      | (with_reducible exact beryllaw20_few.mono _ _ _)
      | (with_reducible exact beryllaw20_has.mono _ _ _)
      | (with_reducible exact disk_Bytes.mono _ _)
      | (with_reducible exact LeO.refl _)
      | (with_reducible exact LeO.none _)
      | (with_reducible refine LeO.ite ?_ ?_)
      | (with_reducible refine LeO.bind ?_ (fun _ => ?_))
      | exact ih0 _ _ _ _
      | exact ih1 _ _ _ _ _ _ _ _ _
      | exact ih2 _ _ _ _ _ _
      | exact ih3 _ _ _ _
      | exact ih4 _ _ _ _
      | exact beryllaw20_few.mono _ _ _
      | exact beryllaw20_has.mono _ _ _
      | exact disk_Bytes.mono _ _
      | exact LeO.none _
      | refine LeO.ite ?_ ?_
      | refine LeO.bind ?_ (fun _ => ?_)
    · intro y0 y1 y2 y3
      unfold beryllaw20_DiskRoom.l0
      repeat' first
      | (with_reducible exact ih0 _ _ _ _)
      | (with_reducible exact ih1 _ _ _ _ _ _ _ _ _)
      | (with_reducible exact ih2 _ _ _ _ _ _)
      | (with_reducible exact ih3 _ _ _ _)
      | (with_reducible exact ih4 _ _ _ _)
      | (with_reducible exact beryllaw20_few.mono _ _ _)
      | (with_reducible exact beryllaw20_has.mono _ _ _)
      | (with_reducible exact disk_Bytes.mono _ _)
      | (with_reducible exact LeO.refl _)
      | (with_reducible exact LeO.none _)
      | (with_reducible refine LeO.ite ?_ ?_)
      | (with_reducible refine LeO.bind ?_ (fun _ => ?_))
      | exact ih0 _ _ _ _
      | exact ih1 _ _ _ _ _ _ _ _ _
      | exact ih2 _ _ _ _ _ _
      | exact ih3 _ _ _ _
      | exact ih4 _ _ _ _
      | exact beryllaw20_few.mono _ _ _
      | exact beryllaw20_has.mono _ _ _
      | exact disk_Bytes.mono _ _
      | exact LeO.none _
      | refine LeO.ite ?_ ?_
      | refine LeO.bind ?_ (fun _ => ?_)
theorem beryllaw20_DiskRoom.mono : ∀ a0 a1 k, LeO (beryllaw20_DiskRoom.f k a0 a1) (beryllaw20_DiskRoom.f (k + 1) a0 a1) := by
  intro a0 a1 k
  obtain ⟨ih0, ih1, ih2, ih3, ih4⟩ := beryllaw20_DiskRoom.mono_l k
  unfold beryllaw20_DiskRoom.f
  repeat' first
      | (with_reducible exact ih0 _ _ _ _)
      | (with_reducible exact ih1 _ _ _ _ _ _ _ _ _)
      | (with_reducible exact ih2 _ _ _ _ _ _)
      | (with_reducible exact ih3 _ _ _ _)
      | (with_reducible exact ih4 _ _ _ _)
      | (with_reducible exact beryllaw20_few.mono _ _ _)
      | (with_reducible exact beryllaw20_has.mono _ _ _)
      | (with_reducible exact disk_Bytes.mono _ _)
      | (with_reducible exact LeO.refl _)
      | (with_reducible exact LeO.none _)
      | (with_reducible refine LeO.ite ?_ ?_)
      | (with_reducible refine LeO.bind ?_ (fun _ => ?_))
      | exact ih0 _ _ _ _
      | exact ih1 _ _ _ _ _ _ _ _ _
      | exact ih2 _ _ _ _ _ _
      | exact ih3 _ _ _ _
      | exact ih4 _ _ _ _
      | exact beryllaw20_few.mono _ _ _
      | exact beryllaw20_has.mono _ _ _
      | exact disk_Bytes.mono _ _
      | exact LeO.none _
      | refine LeO.ite ?_ ?_
      | refine LeO.bind ?_ (fun _ => ?_)
set_option maxHeartbeats 8000000 in
set_option maxRecDepth 100000 in
theorem beryllaw20_DiskRoom.calls (k : Nat) (A0 : Option Addr) (c0 : Nat) (l0 : List Int) (A1 : Option Addr) (c1 : Nat) (l1 : List (S62)) (r : Bool) (w : World) (hr0 : Kd.C (Kd.int .u8) w A0 l0.length l0) (hc0 : l0.length ≤ c0) (hr1 : Kd.C k62 w A1 l1.length l1) (hc1 : l1.length ≤ c1) (h : beryllaw20_DiskRoom.f k l0 l1 = some r) :
    Calls Try.prog 4 #[.slice A0 l0.length c0, .slice A1 l1.length c1] w fun e w' => e = .returned (.bool r) ∧ Below w.heap.size w w' := by
  have HR0 := Aside0.mk hr0
  have HC0 := Aside0.mk hc0
  clear hr0 hc0
  have HR1 := Aside0.mk hr1
  have HC1 := Aside0.mk hc1
  clear hr1 hc1
  have HB := Aside0.mk (Below.refl w.heap.size w)
  have H : ((beryllaw20_awake.f).bind fun t186 => ((beryllaw20_few.f k l0 l1).bind fun t187 => (if t187 = true then ((disk_Check.f l0).bind fun t188 => (beryllaw20_DiskRoom.j0 k l0 l1 t186 (t188 != 0))) else (beryllaw20_DiskRoom.j0 k l0 l1 t186 true)))) = some r := h
  clear h
  replace H := Option.bind_eq_some_iff.mp H
  obtain ⟨t186, A30, H⟩ := H
  replace H : ((beryllaw20_few.f k l0 l1).bind fun t187 => (if t187 = true then ((disk_Check.f l0).bind fun t188 => (beryllaw20_DiskRoom.j0 k l0 l1 t186 (t188 != 0))) else (beryllaw20_DiskRoom.j0 k l0 l1 t186 true))) = some r := H
  have A3 := Aside0.mk A30
  clear A30
  have HC4 := Aside0.mk H
  clear H
  go_enter Try.func4, Try.ntmps4
  go_upto_region 2 with (first | ((with_reducible refine gate_callee (f := 8) rfl ?_); refine goesL_ (some 18) rfl rfl Try.func8 (by kernel_rfl) rfl #[] rfl (by (try simp only [List.map_toArray, List.map_cons, List.map_nil]); first | done | rfl | (simp only [List.length_drop, List.length_take]; rfl)) ?_; (with_reducible refine (beryllaw20_awake.calls  t186 _ A3.out).mono ?_); rintro e w5 ⟨rfl, hb⟩; refine ⟨_, rfl, ?_⟩; have n0_ := Aside0.mk (below_step (by repeat (first | (with_reducible first | exact HB.out | apply below_alloc | apply pw_below_drewN | apply below_drew1) | exact HB.out)) hb); clear HB; have HB := n0_; clear n0_; (try clear hb); (try clear hb2); (try clear hk); (try clear hi)))
  (try simp only [Act.put, List.setIfInBounds_toArray, List.set_cons_zero, List.set_cons_succ])
  go_cut [27] (fun v27 wc => ∃ (kq : Nat) (x27_3 : Bool), v27 = .bool x27_3 ∧ Aside0 (beryllaw20_DiskRoom.j0 kq l0 l1 t186 x27_3 = some r) ∧ Aside0 (kq ≤ k) ∧ Aside0 (Below w.heap.size w wc))
  case first =>
    have H := HC4.out
    clear HC4
    replace H := Option.bind_eq_some_iff.mp H
    obtain ⟨t187, A60, H⟩ := H
    replace H : (if t187 = true then ((disk_Check.f l0).bind fun t188 => (beryllaw20_DiskRoom.j0 k l0 l1 t186 (t188 != 0))) else (beryllaw20_DiskRoom.j0 k l0 l1 t186 true)) = some r := H
    have A6 := Aside0.mk A60
    clear A60
    by_cases c7 : t187 = true
    · subst c7
      have H1 : ((disk_Check.f l0).bind fun t188 => (beryllaw20_DiskRoom.j0 k l0 l1 t186 (t188 != 0))) = some r := by rw [if_pos rfl] at H; exact H
      clear H
      have H := H1
      clear H1
      replace H := Option.bind_eq_some_iff.mp H
      obtain ⟨t188, A80, H⟩ := H
      replace H : (beryllaw20_DiskRoom.j0 k l0 l1 t186 (t188 != 0)) = some r := H
      have A8 := Aside0.mk A80
      clear A80
      have H' := Aside0.mk H
      clear H
      go_wp2_with (first | ((with_reducible refine gate_callee (f := 9) rfl ?_); refine goesL_ (some 21) rfl rfl Try.func9 (by kernel_rfl) rfl #[.slice A0 l0.length c0, .slice A1 l1.length c1] rfl (by (try simp only [List.map_toArray, List.map_cons, List.map_nil]); first | done | rfl | (simp only [List.length_drop, List.length_take]; rfl)) ?_; (with_reducible refine (beryllaw20_few.calls k _ _ l0 _ _ l1 true _ ?side1 ?side2 ?side3 ?side4 A6.out).mono ?_); (case side1 => repeat (first | exact (Kd.C_below HR0.out HB.out) | (with_reducible refine Kd.C_alloc ?_ _) | (with_reducible refine Kd.C_drewN ?_ _) | (with_reducible refine Kd.C_drew ?_))); (case side2 => exact HC0.out); (case side3 => repeat (first | exact (Kd.C_below HR1.out HB.out) | (with_reducible refine Kd.C_alloc ?_ _) | (with_reducible refine Kd.C_drewN ?_ _) | (with_reducible refine Kd.C_drew ?_))); (case side4 => exact HC1.out); rintro e w' ⟨rfl, ⟨nd, rfl⟩⟩; refine ⟨_, rfl, ?_⟩) | (go_at_call 19; (with_reducible refine (disk_Check.calls _ _ l0 t188 _ ?side1 ?side2 A8.out).mono ?_); (case side1 => repeat (first | exact (Kd.C_below HR0.out (by repeat (first | (with_reducible first | exact HB.out | apply below_alloc | apply pw_below_drewN | apply below_drew1) | exact HB.out))) | (with_reducible refine Kd.C_alloc ?_ _) | (with_reducible refine Kd.C_drewN ?_ _) | (with_reducible refine Kd.C_drew ?_))); (case side2 => exact HC0.out); rintro e w9 ⟨rfl, hb⟩; have n0_ := Aside0.mk (below_step (by repeat (first | (with_reducible first | exact HB.out | apply below_alloc | apply pw_below_drewN | apply below_drew1) | exact HB.out)) hb); clear HB; have HB := n0_; clear n0_; (try clear hb); (try clear hb2); (try clear hk); (try clear hi)))
      go_meet
      case rel => exact ⟨_, ((t188 != 0)), (by first | rfl | (simp; done) | (simp [*]; done)), H', ⟨by first | omega | exact Nat.le_refl _⟩, ⟨by repeat (first | (with_reducible first | exact HB.out | apply below_alloc | apply pw_below_drewN | apply below_drew1) | exact HB.out)⟩⟩
    · replace c7 := Bool.eq_false_iff.mpr c7
      subst c7
      have H1 : (beryllaw20_DiskRoom.j0 k l0 l1 t186 true) = some r := by rw [if_neg (show ¬ (false = true) by decide)] at H; exact H
      clear H
      have H := H1
      clear H1
      have H' := Aside0.mk H
      clear H
      go_wp2_with (first | ((with_reducible refine gate_callee (f := 9) rfl ?_); refine goesL_ (some 21) rfl rfl Try.func9 (by kernel_rfl) rfl #[.slice A0 l0.length c0, .slice A1 l1.length c1] rfl (by (try simp only [List.map_toArray, List.map_cons, List.map_nil]); first | done | rfl | (simp only [List.length_drop, List.length_take]; rfl)) ?_; (with_reducible refine (beryllaw20_few.calls k _ _ l0 _ _ l1 false _ ?side1 ?side2 ?side3 ?side4 A6.out).mono ?_); (case side1 => repeat (first | exact (Kd.C_below HR0.out HB.out) | (with_reducible refine Kd.C_alloc ?_ _) | (with_reducible refine Kd.C_drewN ?_ _) | (with_reducible refine Kd.C_drew ?_))); (case side2 => exact HC0.out); (case side3 => repeat (first | exact (Kd.C_below HR1.out HB.out) | (with_reducible refine Kd.C_alloc ?_ _) | (with_reducible refine Kd.C_drewN ?_ _) | (with_reducible refine Kd.C_drew ?_))); (case side4 => exact HC1.out); rintro e w' ⟨rfl, ⟨nd, rfl⟩⟩; refine ⟨_, rfl, ?_⟩))
      go_meet
      case rel => exact ⟨_, (true), (by first | rfl | (simp; done) | (simp [*]; done)), H', ⟨by first | omega | exact Nat.le_refl _⟩, ⟨by repeat (first | (with_reducible first | exact HB.out | apply below_alloc | apply pw_below_drewN | apply below_drew1) | exact HB.out)⟩⟩
  case rest =>
    clear HC4
    try clear c1
    try clear p2
    try clear c4
    try clear c7
    try clear c8
    try clear c9
    obtain ⟨kq, x27_3, rfl, HA, HJ3, HB⟩ := hcut
    cases kq with
    | zero => exact absurd HA.out (by simp [beryllaw20_DiskRoom.j0])
    | succ kj3 =>
      have H := HA.out
      clear HA
      simp only [beryllaw20_DiskRoom.j0] at H
      by_cases c10 : x27_3 = true
      · subst c10
        have H1 : (some t186) = some r := by rw [if_pos rfl] at H; exact H
        clear H
        have H := H1
        clear H1
        obtain rfl := Option.some.inj H
        go_wp2
        go_ret
        exact ⟨by first | rfl | (simp [errW_none, errW_some] <;> rfl) | (simp [*, errW_none, errW_some] <;> rfl), by repeat (first | (with_reducible first | exact HB.out | apply below_alloc | apply pw_below_drewN | apply below_drew1) | exact HB.out)⟩
      · replace c10 := Bool.eq_false_iff.mpr c10
        subst c10
        have H1 : ((disk_Room.f (wrap64 ((l0.length : Int) / 64))).bind fun bt189 => ((disk_Bytes.f kj3 l1).bind fun bt191 => ((disk_Free.f l0).bind fun bt193 => ((disk_Version.f l0).bind fun bt197 => ((disk_Write.f l0 l1).bind fun bt199 => (if bt189.2 = 0 then (if bt193.2 = 0 then (if bt197.2 = 0 then (beryllaw20_DiskRoom.j1 kj3 t186 bt189.1 bt191.1 bt191.2 bt193.1 bt197.1 bt199.1 bt199.2 (decide ((bt193.1.length : Int) < (wrap64 (Int.tdiv bt189.1 62))))) else (beryllaw20_DiskRoom.j1 kj3 t186 bt189.1 bt191.1 bt191.2 bt193.1 bt197.1 bt199.1 bt199.2 true)) else (beryllaw20_DiskRoom.j1 kj3 t186 bt189.1 bt191.1 bt191.2 bt193.1 bt197.1 bt199.1 bt199.2 true)) else (beryllaw20_DiskRoom.j1 kj3 t186 bt189.1 bt191.1 bt191.2 bt193.1 bt197.1 bt199.1 bt199.2 true))))))) = some r := by rw [if_neg (show ¬ (false = true) by decide)] at H; exact H
        clear H
        have H := H1
        clear H1
        replace H := Option.bind_eq_some_iff.mp H
        obtain ⟨⟨t189, t190⟩, A110, H⟩ := H
        replace H : ((disk_Bytes.f kj3 l1).bind fun bt191 => ((disk_Free.f l0).bind fun bt193 => ((disk_Version.f l0).bind fun bt197 => ((disk_Write.f l0 l1).bind fun bt199 => (if t190 = 0 then (if bt193.2 = 0 then (if bt197.2 = 0 then (beryllaw20_DiskRoom.j1 kj3 t186 t189 bt191.1 bt191.2 bt193.1 bt197.1 bt199.1 bt199.2 (decide ((bt193.1.length : Int) < (wrap64 (Int.tdiv t189 62))))) else (beryllaw20_DiskRoom.j1 kj3 t186 t189 bt191.1 bt191.2 bt193.1 bt197.1 bt199.1 bt199.2 true)) else (beryllaw20_DiskRoom.j1 kj3 t186 t189 bt191.1 bt191.2 bt193.1 bt197.1 bt199.1 bt199.2 true)) else (beryllaw20_DiskRoom.j1 kj3 t186 t189 bt191.1 bt191.2 bt193.1 bt197.1 bt199.1 bt199.2 true)))))) = some r := H
        have A11 := Aside0.mk A110
        clear A110
        replace H := Option.bind_eq_some_iff.mp H
        obtain ⟨⟨t191, t192⟩, A120, H⟩ := H
        replace H : ((disk_Free.f l0).bind fun bt193 => ((disk_Version.f l0).bind fun bt197 => ((disk_Write.f l0 l1).bind fun bt199 => (if t190 = 0 then (if bt193.2 = 0 then (if bt197.2 = 0 then (beryllaw20_DiskRoom.j1 kj3 t186 t189 t191 t192 bt193.1 bt197.1 bt199.1 bt199.2 (decide ((bt193.1.length : Int) < (wrap64 (Int.tdiv t189 62))))) else (beryllaw20_DiskRoom.j1 kj3 t186 t189 t191 t192 bt193.1 bt197.1 bt199.1 bt199.2 true)) else (beryllaw20_DiskRoom.j1 kj3 t186 t189 t191 t192 bt193.1 bt197.1 bt199.1 bt199.2 true)) else (beryllaw20_DiskRoom.j1 kj3 t186 t189 t191 t192 bt193.1 bt197.1 bt199.1 bt199.2 true))))) = some r := H
        have A12 := Aside0.mk A120
        clear A120
        replace H := Option.bind_eq_some_iff.mp H
        obtain ⟨⟨t193, t194⟩, A130, H⟩ := H
        replace H : ((disk_Version.f l0).bind fun bt197 => ((disk_Write.f l0 l1).bind fun bt199 => (if t190 = 0 then (if t194 = 0 then (if bt197.2 = 0 then (beryllaw20_DiskRoom.j1 kj3 t186 t189 t191 t192 t193 bt197.1 bt199.1 bt199.2 (decide ((t193.length : Int) < (wrap64 (Int.tdiv t189 62))))) else (beryllaw20_DiskRoom.j1 kj3 t186 t189 t191 t192 t193 bt197.1 bt199.1 bt199.2 true)) else (beryllaw20_DiskRoom.j1 kj3 t186 t189 t191 t192 t193 bt197.1 bt199.1 bt199.2 true)) else (beryllaw20_DiskRoom.j1 kj3 t186 t189 t191 t192 t193 bt197.1 bt199.1 bt199.2 true)))) = some r := H
        have A13 := Aside0.mk A130
        clear A130
        replace H := Option.bind_eq_some_iff.mp H
        obtain ⟨⟨t197, t198⟩, A140, H⟩ := H
        replace H : ((disk_Write.f l0 l1).bind fun bt199 => (if t190 = 0 then (if t194 = 0 then (if t198 = 0 then (beryllaw20_DiskRoom.j1 kj3 t186 t189 t191 t192 t193 t197 bt199.1 bt199.2 (decide ((t193.length : Int) < (wrap64 (Int.tdiv t189 62))))) else (beryllaw20_DiskRoom.j1 kj3 t186 t189 t191 t192 t193 t197 bt199.1 bt199.2 true)) else (beryllaw20_DiskRoom.j1 kj3 t186 t189 t191 t192 t193 t197 bt199.1 bt199.2 true)) else (beryllaw20_DiskRoom.j1 kj3 t186 t189 t191 t192 t193 t197 bt199.1 bt199.2 true))) = some r := H
        have A14 := Aside0.mk A140
        clear A140
        replace H := Option.bind_eq_some_iff.mp H
        obtain ⟨⟨t199, t200⟩, A150, H⟩ := H
        replace H : (if t190 = 0 then (if t194 = 0 then (if t198 = 0 then (beryllaw20_DiskRoom.j1 kj3 t186 t189 t191 t192 t193 t197 t199 t200 (decide ((t193.length : Int) < (wrap64 (Int.tdiv t189 62))))) else (beryllaw20_DiskRoom.j1 kj3 t186 t189 t191 t192 t193 t197 t199 t200 true)) else (beryllaw20_DiskRoom.j1 kj3 t186 t189 t191 t192 t193 t197 t199 t200 true)) else (beryllaw20_DiskRoom.j1 kj3 t186 t189 t191 t192 t193 t197 t199 t200 true)) = some r := H
        have A15 := Aside0.mk A150
        clear A150
        have HC16 := Aside0.mk H
        clear H
        go_upto_region 9 with (first | ((with_reducible refine gate_callee (f := 20) rfl ?_); refine goesL_ (some 33) rfl rfl Try.func20 (by kernel_rfl) rfl #[.int .i64 (wrap64 ((l0.length : Int) / 64))] rfl (by (try simp only [List.map_toArray, List.map_cons, List.map_nil]); first | done | rfl | (simp only [List.length_drop, List.length_take]; rfl)) ?_; (with_reducible refine (disk_Room.calls (wrap64 ((l0.length : Int) / 64)) t189 t190 _ A11.out).mono ?_); rintro e w' ⟨rfl, ⟨nd, rfl⟩⟩; refine ⟨_, rfl, ?_⟩) | ((with_reducible refine gate_callee (f := 21) rfl ?_); refine goesL_ (some 38) rfl rfl Try.func21 (by kernel_rfl) rfl #[.slice A1 l1.length c1] rfl (by (try simp only [List.map_toArray, List.map_cons, List.map_nil]); first | done | rfl | (simp only [List.length_drop, List.length_take]; rfl)) ?_; (with_reducible refine (disk_Bytes.calls kj3 _ _ l1 t191 t192 _ ?side1 ?side2 A12.out).mono ?_); (case side1 => repeat (first | exact (Kd.C_below HR1.out (by repeat (first | (with_reducible first | exact HB.out | apply below_alloc | apply pw_below_drewN | apply below_drew1) | exact HB.out))) | (with_reducible refine Kd.C_alloc ?_ _) | (with_reducible refine Kd.C_drewN ?_ _) | (with_reducible refine Kd.C_drew ?_))); (case side2 => exact HC1.out); rintro e w17 ⟨rfl, hb⟩; refine ⟨_, rfl, ?_⟩; have n0_ := Aside0.mk (below_step (by repeat (first | (with_reducible first | exact HB.out | apply below_alloc | apply pw_below_drewN | apply below_drew1) | exact HB.out)) hb); clear HB; have HB := n0_; clear n0_; (try clear hb); (try clear hb2); (try clear hk); (try clear hi)) | ((with_reducible refine gate_callee (f := 10) rfl ?_); refine goesL_ (some 43) rfl rfl Try.func10 (by kernel_rfl) rfl #[.slice A0 l0.length c0] rfl (by (try simp only [List.map_toArray, List.map_cons, List.map_nil]); first | done | rfl | (simp only [List.length_drop, List.length_take]; rfl)) ?_; (with_reducible refine (disk_Free.calls _ _ l0 t193 t194 _ ?side1 ?side2 A13.out).mono ?_); (case side1 => repeat (first | exact (Kd.C_below HR0.out HB.out) | (with_reducible refine Kd.C_alloc ?_ _) | (with_reducible refine Kd.C_drewN ?_ _) | (with_reducible refine Kd.C_drew ?_))); (case side2 => exact HC0.out); rintro e w18 ⟨v195, rfl, ho0, hb⟩; refine ⟨_, rfl, ?_⟩; have n0_ := Aside0.mk (Kd.R_lower ho0 (below_size (by repeat (first | (with_reducible first | exact HB.out | apply below_alloc | apply pw_below_drewN | apply below_drew1) | exact HB.out)))); have n1_ := Aside0.mk (below_step (by repeat (first | (with_reducible first | exact HB.out | apply below_alloc | apply pw_below_drewN | apply below_drew1) | exact HB.out)) hb); clear HB; have HO196 := n0_; have HB := n1_; clear n0_ n1_; (try clear hb); (try clear hb2); (try clear hk); (try clear hi); (try clear ho0)) | ((with_reducible refine gate_callee (f := 14) rfl ?_); refine goesL_ (some 48) rfl rfl Try.func14 (by kernel_rfl) rfl #[.slice A0 l0.length c0] rfl (by (try simp only [List.map_toArray, List.map_cons, List.map_nil]); first | done | rfl | (simp only [List.length_drop, List.length_take]; rfl)) ?_; (with_reducible refine (disk_Version.calls _ _ l0 t197 t198 _ ?side1 ?side2 A14.out).mono ?_); (case side1 => repeat (first | exact (Kd.C_below HR0.out HB.out) | (with_reducible refine Kd.C_alloc ?_ _) | (with_reducible refine Kd.C_drewN ?_ _) | (with_reducible refine Kd.C_drew ?_))); (case side2 => exact HC0.out); rintro e w19 ⟨rfl, hb⟩; refine ⟨_, rfl, ?_⟩; have n0_ := Aside0.mk (Kd.R_below (by (with_reducible repeat (first | apply Kd.R_alloc | apply Kd.R_drewN | apply Kd.R_drew)); exact HO196.out) hb); have n1_ := Aside0.mk (below_step (by repeat (first | (with_reducible first | exact HB.out | apply below_alloc | apply pw_below_drewN | apply below_drew1) | exact HB.out)) hb); clear HO196; clear HB; have HO196 := n0_; have HB := n1_; clear n0_ n1_; (try clear hb); (try clear hb2); (try clear hk); (try clear hi)) | ((with_reducible refine gate_callee (f := 16) rfl ?_); refine goesL_ (some 54) rfl rfl Try.func16 (by kernel_rfl) rfl #[.slice A0 l0.length c0, .slice A1 l1.length c1] rfl (by (try simp only [List.map_toArray, List.map_cons, List.map_nil]); first | done | rfl | (simp only [List.length_drop, List.length_take]; rfl)) ?_; (with_reducible refine (disk_Write.calls _ _ l0 _ _ l1 t199 t200 _ ?side1 ?side2 ?side3 ?side4 A15.out).mono ?_); (case side1 => repeat (first | exact (Kd.C_below HR0.out HB.out) | (with_reducible refine Kd.C_alloc ?_ _) | (with_reducible refine Kd.C_drewN ?_ _) | (with_reducible refine Kd.C_drew ?_))); (case side2 => exact HC0.out); (case side3 => repeat (first | exact (Kd.C_below HR1.out HB.out) | (with_reducible refine Kd.C_alloc ?_ _) | (with_reducible refine Kd.C_drewN ?_ _) | (with_reducible refine Kd.C_drew ?_))); (case side4 => exact HC1.out); rintro e w20 ⟨v201, rfl, ho0, hb⟩; refine ⟨_, rfl, ?_⟩; have n0_ := Aside0.mk (Kd.R_below (by (with_reducible repeat (first | apply Kd.R_alloc | apply Kd.R_drewN | apply Kd.R_drew)); exact HO196.out) hb); have n1_ := Aside0.mk (Kd.R_lower ho0 (below_size (by repeat (first | (with_reducible first | exact HB.out | apply below_alloc | apply pw_below_drewN | apply below_drew1) | exact HB.out)))); have n2_ := Aside0.mk (below_step (by repeat (first | (with_reducible first | exact HB.out | apply below_alloc | apply pw_below_drewN | apply below_drew1) | exact HB.out)) hb); clear HO196; clear HB; have HO196 := n0_; have HO202 := n1_; have HB := n2_; clear n0_ n1_ n2_; (try clear hb); (try clear hb2); (try clear hk); (try clear hi); (try clear ho0)))
        (try simp only [Act.put, List.setIfInBounds_toArray, List.set_cons_zero, List.set_cons_succ])
        go_cut [73] (fun v73 wc => ∃ (kq : Nat) (x73_15 : Bool), v73 = .bool x73_15 ∧ Aside0 (beryllaw20_DiskRoom.j1 kq t186 t189 t191 t192 t193 t197 t199 t200 x73_15 = some r) ∧ Aside0 (kq ≤ kj3) ∧ Aside0 (Kd.R (Kd.int .i64) 3 wc w.heap.size (fun _ => True) v195 t193) ∧ Aside0 (Kd.R k34 34 wc w.heap.size (fun _ => True) v201 t199) ∧ Aside0 (Below w.heap.size w wc))
        case first =>
          have H := HC16.out
          clear HC16
          by_cases c21 : t190 = 0
          · rw [if_pos c21] at H
            have c21b0 : (t190 == 0) = true := beq_iff_eq.mpr c21
            have c21b1 : (t190 != 0) = false := bne_eq_false_iff_eq.mpr c21
            clear c21
            (first | rw [c21b0] | (simp only [i64_w, i32_w]; rw [c21b0]) | skip)
            by_cases c22 : t194 = 0
            · rw [if_pos c22] at H
              have c22b0 : (t194 == 0) = true := beq_iff_eq.mpr c22
              have c22b1 : (t194 != 0) = false := bne_eq_false_iff_eq.mpr c22
              clear c22
              by_cases c23 : t198 = 0
              · rw [if_pos c23] at H
                have c23b0 : (t198 == 0) = true := beq_iff_eq.mpr c23
                have c23b1 : (t198 != 0) = false := bne_eq_false_iff_eq.mpr c23
                clear c23
                have H' := Aside0.mk H
                clear H
                obtain ⟨Ao24, co24, eo24⟩ := Kd.R_slice HO196.out
                subst eo24
                go_wp2
                go_meet
                case rel => exact ⟨_, (decide ((t193.length : Int) < (wrap64 (Int.tdiv t189 62)))), (by first | rfl | (simp; done) | (simp [*]; done)), H', ⟨by have := HJ3.out; first | omega | exact Nat.le_refl _⟩, ⟨by (with_reducible repeat (first | apply Kd.R_alloc | apply Kd.R_drewN | apply Kd.R_drew)); exact HO196.out⟩, ⟨by (with_reducible repeat (first | apply Kd.R_alloc | apply Kd.R_drewN | apply Kd.R_drew)); exact HO202.out⟩, ⟨by repeat (first | (with_reducible first | exact HB.out | apply below_alloc | apply pw_below_drewN | apply below_drew1) | exact HB.out)⟩⟩
              · rw [if_neg c23] at H
                have c23b0 : (t198 == 0) = false := beq_eq_false_iff_ne.mpr c23
                have c23b1 : (t198 != 0) = true := bne_iff_ne.mpr c23
                have H' := Aside0.mk H
                clear H
                go_wp2
                go_meet
                case rel => exact ⟨_, (true), (by first | rfl | (simp; done) | (simp [*]; done)), H', ⟨by have := HJ3.out; first | omega | exact Nat.le_refl _⟩, ⟨by (with_reducible repeat (first | apply Kd.R_alloc | apply Kd.R_drewN | apply Kd.R_drew)); exact HO196.out⟩, ⟨by (with_reducible repeat (first | apply Kd.R_alloc | apply Kd.R_drewN | apply Kd.R_drew)); exact HO202.out⟩, ⟨by repeat (first | (with_reducible first | exact HB.out | apply below_alloc | apply pw_below_drewN | apply below_drew1) | exact HB.out)⟩⟩
            · rw [if_neg c22] at H
              have c22b0 : (t194 == 0) = false := beq_eq_false_iff_ne.mpr c22
              have c22b1 : (t194 != 0) = true := bne_iff_ne.mpr c22
              have H' := Aside0.mk H
              clear H
              go_wp2
              go_meet
              case rel => exact ⟨_, (true), (by first | rfl | (simp; done) | (simp [*]; done)), H', ⟨by have := HJ3.out; first | omega | exact Nat.le_refl _⟩, ⟨by (with_reducible repeat (first | apply Kd.R_alloc | apply Kd.R_drewN | apply Kd.R_drew)); exact HO196.out⟩, ⟨by (with_reducible repeat (first | apply Kd.R_alloc | apply Kd.R_drewN | apply Kd.R_drew)); exact HO202.out⟩, ⟨by repeat (first | (with_reducible first | exact HB.out | apply below_alloc | apply pw_below_drewN | apply below_drew1) | exact HB.out)⟩⟩
          · rw [if_neg c21] at H
            have c21b0 : (t190 == 0) = false := beq_eq_false_iff_ne.mpr c21
            have c21b1 : (t190 != 0) = true := bne_iff_ne.mpr c21
            (first | rw [c21b0] | (simp only [i64_w, i32_w]; rw [c21b0]) | skip)
            have H' := Aside0.mk H
            clear H
            go_wp2
            go_meet
            case rel => exact ⟨_, (true), (by first | rfl | (simp; done) | (simp [*]; done)), H', ⟨by have := HJ3.out; first | omega | exact Nat.le_refl _⟩, ⟨by (with_reducible repeat (first | apply Kd.R_alloc | apply Kd.R_drewN | apply Kd.R_drew)); exact HO196.out⟩, ⟨by (with_reducible repeat (first | apply Kd.R_alloc | apply Kd.R_drewN | apply Kd.R_drew)); exact HO202.out⟩, ⟨by repeat (first | (with_reducible first | exact HB.out | apply below_alloc | apply pw_below_drewN | apply below_drew1) | exact HB.out)⟩⟩
        case rest =>
          clear HC16
          try clear c1
          try clear c2
          try clear p2
          try clear c4
          try clear p6
          try clear c7
          try clear c8
          try clear c9
          try clear c10
          try clear c14
          try clear c16
          try clear c20
          try clear c21
          try clear c21b0
          try clear c21b1
          try clear c22
          try clear c22b0
          try clear c22b1
          try clear c23
          try clear c23b0
          try clear c23b1
          try clear p2
          obtain ⟨kq, x73_15, rfl, HA, HJ15, HO_10, HO_14, HB⟩ := hcut
          cases kq with
          | zero => exact absurd HA.out (by simp [beryllaw20_DiskRoom.j1])
          | succ kj15 =>
            have H := HA.out
            clear HA
            simp only [beryllaw20_DiskRoom.j1] at H
            by_cases c25 : x73_15 = true
            · subst c25
              have H1 : (some false) = some r := by rw [if_pos rfl] at H; exact H
              clear H
              have H := H1
              clear H1
              obtain rfl := Option.some.inj H
              go_wp2
              go_ret
              exact ⟨by first | rfl | (simp [errW_none, errW_some] <;> rfl) | (simp [*, errW_none, errW_some] <;> rfl), by repeat (first | (with_reducible first | exact HB.out | apply below_alloc | apply pw_below_drewN | apply below_drew1) | exact HB.out)⟩
            · replace c25 := Bool.eq_false_iff.mpr c25
              subst c25
              have H1 : (if t192 = 0 then (if t191 > t189 then (beryllaw20_DiskRoom.j2 kj15 t186 t191 t193 t199 t200 true) else (beryllaw20_DiskRoom.j2 kj15 t186 t191 t193 t199 t200 (decide (t197 ≥ 1099511627776)))) else (if t186 = true then (some (t200 == 1)) else (some false))) = some r := by rw [if_neg (show ¬ (false = true) by decide)] at H; exact H
              clear H
              have H := H1
              clear H1
              by_cases c26 : t192 = 0
              · rw [if_pos c26] at H
                have c26b0 : (t192 == 0) = true := beq_iff_eq.mpr c26
                have c26b1 : (t192 != 0) = false := bne_eq_false_iff_eq.mpr c26
                clear c26
                have HC27 := Aside0.mk H
                clear H
                go_upto_region 13 with (fail)
                go_cut [87] (fun v87 wc => ∃ (kq : Nat) (x87_26 : Bool), v87 = .bool x87_26 ∧ Aside0 (beryllaw20_DiskRoom.j2 kq t186 t191 t193 t199 t200 x87_26 = some r) ∧ Aside0 (kq ≤ kj15) ∧ Aside0 (Kd.R (Kd.int .i64) 3 wc w.heap.size (fun _ => True) v195 t193) ∧ Aside0 (Kd.R k34 34 wc w.heap.size (fun _ => True) v201 t199) ∧ Aside0 (Below w.heap.size w wc))
                case first =>
                  have H := HC27.out
                  clear HC27
                  by_cases c28 : t191 > t189
                  · rw [if_pos c28] at H
                    have c28b0 : decide (t189 < t191) = true := decide_eq_true c28
                    clear c28
                    (first | rw [c28b0] | (simp only [i64_w, i32_w]; rw [c28b0]) | skip)
                    have H' := Aside0.mk H
                    clear H
                    go_wp2
                    go_meet
                    case rel => exact ⟨_, (true), (by first | rfl | (simp; done) | (simp [*]; done)), H', ⟨by have := HJ3.out; have := HJ15.out; first | omega | exact Nat.le_refl _⟩, ⟨by (with_reducible repeat (first | apply Kd.R_alloc | apply Kd.R_drewN | apply Kd.R_drew)); exact HO_10.out⟩, ⟨by (with_reducible repeat (first | apply Kd.R_alloc | apply Kd.R_drewN | apply Kd.R_drew)); exact HO_14.out⟩, ⟨by repeat (first | (with_reducible first | exact HB.out | apply below_alloc | apply pw_below_drewN | apply below_drew1) | exact HB.out)⟩⟩
                  · rw [if_neg c28] at H
                    have c28b0 : decide (t189 < t191) = false := decide_eq_false c28
                    clear c28
                    (first | rw [c28b0] | (simp only [i64_w, i32_w]; rw [c28b0]) | skip)
                    have H' := Aside0.mk H
                    clear H
                    go_wp2
                    go_meet
                    case rel => exact ⟨_, (decide (t197 ≥ 1099511627776)), (by first | rfl | (simp; done) | (simp [*]; done)), H', ⟨by have := HJ3.out; have := HJ15.out; first | omega | exact Nat.le_refl _⟩, ⟨by (with_reducible repeat (first | apply Kd.R_alloc | apply Kd.R_drewN | apply Kd.R_drew)); exact HO_10.out⟩, ⟨by (with_reducible repeat (first | apply Kd.R_alloc | apply Kd.R_drewN | apply Kd.R_drew)); exact HO_14.out⟩, ⟨by repeat (first | (with_reducible first | exact HB.out | apply below_alloc | apply pw_below_drewN | apply below_drew1) | exact HB.out)⟩⟩
                case rest =>
                  clear HC27
                  try clear c1
                  try clear c2
                  try clear p2
                  try clear c4
                  try clear p6
                  try clear c7
                  try clear c8
                  try clear c9
                  try clear c10
                  try clear c14
                  try clear c16
                  try clear c20
                  try clear c21
                  try clear c21b0
                  try clear c21b1
                  try clear c22
                  try clear c22b0
                  try clear c22b1
                  try clear c23
                  try clear c23b0
                  try clear c23b1
                  try clear c25
                  try clear c26
                  try clear c26b0
                  try clear c26b1
                  try clear c28
                  try clear c28b0
                  try clear p2
                  try clear p6
                  obtain ⟨kq, x87_26, rfl, HA, HJ26, HO_10, HO_14, HB⟩ := hcut
                  cases kq with
                  | zero => exact absurd HA.out (by simp [beryllaw20_DiskRoom.j2])
                  | succ kj26 =>
                    have H := HA.out
                    clear HA
                    simp only [beryllaw20_DiskRoom.j2] at H
                    by_cases c29 : x87_26 = true
                    · subst c29
                      have H1 : (if t186 = true then (some (t200 == 2)) else (some false)) = some r := by rw [if_pos rfl] at H; exact H
                      clear H
                      have H := H1
                      clear H1
                      by_cases c30 : t186 = true
                      · subst c30
                        have H1 : (some (t200 == 2)) = some r := by rw [if_pos rfl] at H; exact H
                        clear H
                        have H := H1
                        clear H1
                        obtain rfl := Option.some.inj H
                        go_wp2
                        go_ret
                        exact ⟨by first | rfl | (simp [errW_none, errW_some] <;> rfl) | (simp [*, errW_none, errW_some] <;> rfl), by repeat (first | (with_reducible first | exact HB.out | apply below_alloc | apply pw_below_drewN | apply below_drew1) | exact HB.out)⟩
                      · replace c30 := Bool.eq_false_iff.mpr c30
                        subst c30
                        have H1 : (some false) = some r := by rw [if_neg (show ¬ (false = true) by decide)] at H; exact H
                        clear H
                        have H := H1
                        clear H1
                        obtain rfl := Option.some.inj H
                        go_wp2
                        go_ret
                        exact ⟨by first | rfl | (simp [errW_none, errW_some] <;> rfl) | (simp [*, errW_none, errW_some] <;> rfl), by repeat (first | (with_reducible first | exact HB.out | apply below_alloc | apply pw_below_drewN | apply below_drew1) | exact HB.out)⟩
                    · replace c29 := Bool.eq_false_iff.mpr c29
                      subst c29
                      have H1 : (if t200 = 0 then (beryllaw20_DiskRoom.j3 kj26 t186 t193 t199 ((t199.length : Int) != (wrap64 ((wrap64 (Int.tdiv (wrap64 (t191 + 61)) 62)) + 1)))) else (beryllaw20_DiskRoom.j3 kj26 t186 t193 t199 true)) = some r := by rw [if_neg (show ¬ (false = true) by decide)] at H; exact H
                      clear H
                      have H := H1
                      clear H1
                      have HC31 := Aside0.mk H
                      clear H
                      go_upto_region 15 with (fail)
                      go_cut [103] (fun v103 wc => ∃ (kq : Nat) (x103_30 : Bool), v103 = .bool x103_30 ∧ Aside0 (beryllaw20_DiskRoom.j3 kq t186 t193 t199 x103_30 = some r) ∧ Aside0 (kq ≤ kj26) ∧ Aside0 (Kd.R (Kd.int .i64) 3 wc w.heap.size (fun _ => True) v195 t193) ∧ Aside0 (Kd.R k34 34 wc w.heap.size (fun _ => True) v201 t199) ∧ Aside0 (Below w.heap.size w wc))
                      case first =>
                        have H := HC31.out
                        clear HC31
                        by_cases c32 : t200 = 0
                        · rw [if_pos c32] at H
                          have c32b0 : (t200 == 0) = true := beq_iff_eq.mpr c32
                          have c32b1 : (t200 != 0) = false := bne_eq_false_iff_eq.mpr c32
                          clear c32
                          (first | rw [c32b0] | (simp only [i64_w, i32_w]; rw [c32b0]) | skip)
                          have H' := Aside0.mk H
                          clear H
                          obtain ⟨Ao33, co33, eo33⟩ := Kd.R_slice HO_14.out
                          subst eo33
                          go_wp2
                          go_meet
                          case rel => exact ⟨_, (((t199.length : Int) != (wrap64 ((wrap64 (Int.tdiv (wrap64 (t191 + 61)) 62)) + 1)))), (by first | rfl | (simp; done) | (simp [*]; done)), H', ⟨by have := HJ3.out; have := HJ15.out; have := HJ26.out; first | omega | exact Nat.le_refl _⟩, ⟨by (with_reducible repeat (first | apply Kd.R_alloc | apply Kd.R_drewN | apply Kd.R_drew)); exact HO_10.out⟩, ⟨by (with_reducible repeat (first | apply Kd.R_alloc | apply Kd.R_drewN | apply Kd.R_drew)); exact HO_14.out⟩, ⟨by repeat (first | (with_reducible first | exact HB.out | apply below_alloc | apply pw_below_drewN | apply below_drew1) | exact HB.out)⟩⟩
                        · rw [if_neg c32] at H
                          have c32b0 : (t200 == 0) = false := beq_eq_false_iff_ne.mpr c32
                          have c32b1 : (t200 != 0) = true := bne_iff_ne.mpr c32
                          (first | rw [c32b0] | (simp only [i64_w, i32_w]; rw [c32b0]) | skip)
                          have H' := Aside0.mk H
                          clear H
                          go_wp2
                          go_meet
                          case rel => exact ⟨_, (true), (by first | rfl | (simp; done) | (simp [*]; done)), H', ⟨by have := HJ3.out; have := HJ15.out; have := HJ26.out; first | omega | exact Nat.le_refl _⟩, ⟨by (with_reducible repeat (first | apply Kd.R_alloc | apply Kd.R_drewN | apply Kd.R_drew)); exact HO_10.out⟩, ⟨by (with_reducible repeat (first | apply Kd.R_alloc | apply Kd.R_drewN | apply Kd.R_drew)); exact HO_14.out⟩, ⟨by repeat (first | (with_reducible first | exact HB.out | apply below_alloc | apply pw_below_drewN | apply below_drew1) | exact HB.out)⟩⟩
                      case rest =>
                        clear HC31
                        try clear c1
                        try clear c2
                        try clear p2
                        try clear c3
                        try clear c4
                        try clear p6
                        try clear c7
                        try clear c8
                        try clear c9
                        try clear c10
                        try clear c14
                        try clear c16
                        try clear c20
                        try clear c21
                        try clear c21b0
                        try clear c21b1
                        try clear c22
                        try clear c22b0
                        try clear c22b1
                        try clear c23
                        try clear c23b0
                        try clear c23b1
                        try clear c25
                        try clear c26
                        try clear c26b0
                        try clear c26b1
                        try clear c28
                        try clear c28b0
                        try clear c29
                        try clear c30
                        try clear c32
                        try clear c32b0
                        try clear c32b1
                        try clear p2
                        try clear p6
                        obtain ⟨kq, x103_30, rfl, HA, HJ30, HO_10, HO_14, HB⟩ := hcut
                        cases kq with
                        | zero => exact absurd HA.out (by simp [beryllaw20_DiskRoom.j3])
                        | succ kj30 =>
                          have H := HA.out
                          clear HA
                          simp only [beryllaw20_DiskRoom.j3] at H
                          by_cases c34 : x103_30 = true
                          · subst c34
                            have H1 : (some false) = some r := by rw [if_pos rfl] at H; exact H
                            clear H
                            have H := H1
                            clear H1
                            obtain rfl := Option.some.inj H
                            go_wp2
                            go_ret
                            exact ⟨by first | rfl | (simp [errW_none, errW_some] <;> rfl) | (simp [*, errW_none, errW_some] <;> rfl), by repeat (first | (with_reducible first | exact HB.out | apply below_alloc | apply pw_below_drewN | apply below_drew1) | exact HB.out)⟩
                          · replace c34 := Bool.eq_false_iff.mpr c34
                            subst c34
                            have H1 : (beryllaw20_DiskRoom.l0 kj30 t186 t193 t199 0) = some r := by rw [if_neg (show ¬ (false = true) by decide)] at H; exact H
                            clear H
                            have H := H1
                            clear H1
                            have H' := Aside0.mk H
                            clear H
                            go_wp2
                            go_loopg [16] kj30 (fun kq v16 w' => ∃ (x16_5 : Int), v16 = .int .i64 x16_5 ∧ Aside0 (beryllaw20_DiskRoom.l0 kq t186 t193 t199 x16_5 = some r) ∧ Aside0 (kq ≤ kj30) ∧ Aside0 (Kd.R (Kd.int .i64) 3 w' w.heap.size (fun _ => True) v195 t193) ∧ Aside0 (Kd.R k34 34 w' w.heap.size (fun _ => True) v201 t199) ∧ Aside0 (Below w.heap.size w w'))
                            case atStart => exact ⟨(0), (by first | rfl | (simp; done) | (simp [*]; done)), H', ⟨Nat.le_refl _⟩, ⟨by (with_reducible repeat (first | apply Kd.R_alloc | apply Kd.R_drewN | apply Kd.R_drew)); exact HO_10.out⟩, ⟨by (with_reducible repeat (first | apply Kd.R_alloc | apply Kd.R_drewN | apply Kd.R_drew)); exact HO_14.out⟩, ⟨by repeat (first | (with_reducible first | exact HB.out | apply below_alloc | apply pw_below_drewN | apply below_drew1) | exact HB.out)⟩⟩
                            case round =>
                              clear H'
                              try clear c1
                              try clear c2
                              try clear p2
                              try clear c3
                              try clear c4
                              try clear p6
                              try clear c7
                              try clear c8
                              try clear c9
                              try clear c10
                              try clear c14
                              try clear c16
                              try clear c20
                              try clear c21
                              try clear c21b0
                              try clear c21b1
                              try clear c22
                              try clear c22b0
                              try clear c22b1
                              try clear c23
                              try clear c23b0
                              try clear c23b1
                              try clear c25
                              try clear c26
                              try clear c26b0
                              try clear c26b1
                              try clear c28
                              try clear c28b0
                              try clear c29
                              try clear c30
                              try clear c32
                              try clear c32b0
                              try clear c32b1
                              try clear c34
                              try clear p2
                              try clear p6
                              obtain ⟨x16_5, rfl, HA, HK5, HO_10, HO_14, HB⟩ := hrel
                              cases gk with
                              | zero => exact absurd HA.out (by simp [beryllaw20_DiskRoom.l0])
                              | succ k5 =>
                                have H := HA.out
                                clear HA
                                simp only [beryllaw20_DiskRoom.l0] at H
                                by_cases c35 : x16_5 < (t199.length : Int)
                                · rw [if_pos c35] at H
                                  have c35b0 : decide (x16_5 < (t199.length : Int)) = true := decide_eq_true c35
                                  clear c35
                                  by_cases c36 : 0 ≤ x16_5
                                  · rw [if_pos c36] at H
                                    have c36b0 : decide (0 ≤ x16_5) = true := decide_eq_true c36
                                    clear c36
                                    by_cases c37 : (((rd_T34 t199 x16_5).f1).length : Int) = 64
                                    · rw [if_pos c37] at H
                                      have c37b0 : ((((rd_T34 t199 x16_5).f1).length : Int) == 64) = true := beq_iff_eq.mpr c37
                                      have c37b1 : ((((rd_T34 t199 x16_5).f1).length : Int) != 64) = false := bne_eq_false_iff_eq.mpr c37
                                      clear c37
                                      by_cases c38 : x16_5 = (wrap64 ((t199.length : Int) - 1))
                                      · rw [if_pos c38] at H
                                        have c38b0 : (x16_5 == (wrap64 ((t199.length : Int) - 1))) = true := beq_iff_eq.mpr c38
                                        have c38b1 : (x16_5 != (wrap64 ((t199.length : Int) - 1))) = false := bne_eq_false_iff_eq.mpr c38
                                        clear c38
                                        by_cases c39 : ((rd_T34 t199 x16_5).f0) < 0
                                        · rw [if_pos c39] at H
                                          have c39b0 : decide (((rd_T34 t199 x16_5).f0) < 0) = true := decide_eq_true c39
                                          clear c39
                                          obtain rfl := Option.some.inj H
                                          obtain ⟨Ao40, co40, eo40⟩ := Kd.R_slice HO_14.out
                                          subst eo40
                                          have p203 : 0 ≤ (x16_5 : Int) := of_decide_eq_true (by first | (with_reducible assumption) | assumption)
                                          have q203 : x16_5 < (t199.length : Int) := of_decide_eq_true (by first | (with_reducible assumption) | assumption)
                                          obtain ⟨ad203, A203_1, c203_1, e203, hx203_0, hx203_1, hl203_1, hi203_1⟩ := at_T34 (Kd.R_reads' HO_14.out).2.2 x16_5 p203 q203
                                          cases e203
                                          obtain ⟨ce203, hce203, hMe203, hcc203⟩ := Kd.R_get HO_14.out z34 x16_5 p203 (by first | exact q203 | exact of_decide_eq_true (by first | (with_reducible assumption) | assumption) | (have e_ := (Kd.R_reads' HO_14.out).1; omega))
                                          obtain ⟨ve203_1, rfl, ge203_1⟩ := k34_openM hMe203
                                          have hv203_1 := hcc203 1 _ rfl
                                          rw [add_field _ _ 1 (by omega)] at hv203_1
                                          replace hv203_1 := Option.some.inj (hv203_1.symm.trans hx203_1)
                                          rw [hv203_1] at ge203_1
                                          have HL203_1 := Aside0.mk (show Kd.R (Kd.int .u8) 5 _ _ _ _ ((rd_T34 t199 x16_5).f1) from ge203_1)
                                          clear hv203_1 ge203_1
                                          clear hcc203 hce203
                                          have HR203_1 := Aside0.mk hi203_1
                                          have HC203_1 := Aside0.mk hl203_1
                                          clear hi203_1 hl203_1
                                          replace p203 := eq_true p203
                                          replace q203 := eq_true q203
                                          have p204 : 0 ≤ (x16_5 : Int) := of_decide_eq_true (by first | (with_reducible assumption) | assumption)
                                          have q204 : x16_5 < (t199.length : Int) := of_decide_eq_true (by first | (with_reducible assumption) | assumption)
                                          obtain ⟨ad204, A204_1, c204_1, e204, hx204_0, hx204_1, hl204_1, hi204_1⟩ := at_T34 (Kd.R_reads' HO_14.out).2.2 x16_5 p204 q204
                                          obtain rfl : ad203 = ad204 := (by injection e204)
                                          obtain ⟨ce204, hce204, hMe204, hcc204⟩ := Kd.R_get HO_14.out z34 x16_5 p204 (by first | exact q204 | exact of_decide_eq_true (by first | (with_reducible assumption) | assumption) | (have e_ := (Kd.R_reads' HO_14.out).1; omega))
                                          obtain ⟨ve204_1, rfl, ge204_1⟩ := k34_openM hMe204
                                          have hv204_1 := hcc204 1 _ rfl
                                          rw [add_field _ _ 1 (by omega)] at hv204_1
                                          replace hv204_1 := Option.some.inj (hv204_1.symm.trans hx204_1)
                                          rw [hv204_1] at ge204_1
                                          have HL204_1 := Aside0.mk (show Kd.R (Kd.int .u8) 5 _ _ _ _ ((rd_T34 t199 x16_5).f1) from ge204_1)
                                          clear hv204_1 ge204_1
                                          clear hcc204 hce204
                                          have HR204_1 := Aside0.mk hi204_1
                                          have HC204_1 := Aside0.mk hl204_1
                                          clear hi204_1 hl204_1
                                          replace p204 := eq_true p204
                                          replace q204 := eq_true q204
                                          have ea_ := Option.some.inj (hx203_1.symm.trans hx204_1)
                                          injection ea_ with ea_ en_ ec_
                                          subst ea_
                                          subst ec_
                                          clear en_
                                          go_wp2
                                          go_ret
                                          exact ⟨by first | rfl | (simp [errW_none, errW_some] <;> rfl) | (simp [*, errW_none, errW_some] <;> rfl), by repeat (first | (with_reducible first | exact HB.out | apply below_alloc | apply pw_below_drewN | apply below_drew1) | exact HB.out)⟩
                                        · rw [if_neg c39] at H
                                          have c39b0 : decide (((rd_T34 t199 x16_5).f0) < 0) = false := decide_eq_false c39
                                          clear c39
                                          by_cases c41 : ((rd_T34 t199 x16_5).f0) > 1
                                          · rw [if_pos c41] at H
                                            have c41b0 : decide (1 < ((rd_T34 t199 x16_5).f0)) = true := decide_eq_true c41
                                            clear c41
                                            obtain rfl := Option.some.inj H
                                            obtain ⟨Ao42, co42, eo42⟩ := Kd.R_slice HO_14.out
                                            subst eo42
                                            have p203 : 0 ≤ (x16_5 : Int) := of_decide_eq_true (by first | (with_reducible assumption) | assumption)
                                            have q203 : x16_5 < (t199.length : Int) := of_decide_eq_true (by first | (with_reducible assumption) | assumption)
                                            obtain ⟨ad203, A203_1, c203_1, e203, hx203_0, hx203_1, hl203_1, hi203_1⟩ := at_T34 (Kd.R_reads' HO_14.out).2.2 x16_5 p203 q203
                                            cases e203
                                            obtain ⟨ce203, hce203, hMe203, hcc203⟩ := Kd.R_get HO_14.out z34 x16_5 p203 (by first | exact q203 | exact of_decide_eq_true (by first | (with_reducible assumption) | assumption) | (have e_ := (Kd.R_reads' HO_14.out).1; omega))
                                            obtain ⟨ve203_1, rfl, ge203_1⟩ := k34_openM hMe203
                                            have hv203_1 := hcc203 1 _ rfl
                                            rw [add_field _ _ 1 (by omega)] at hv203_1
                                            replace hv203_1 := Option.some.inj (hv203_1.symm.trans hx203_1)
                                            rw [hv203_1] at ge203_1
                                            have HL203_1 := Aside0.mk (show Kd.R (Kd.int .u8) 5 _ _ _ _ ((rd_T34 t199 x16_5).f1) from ge203_1)
                                            clear hv203_1 ge203_1
                                            clear hcc203 hce203
                                            have HR203_1 := Aside0.mk hi203_1
                                            have HC203_1 := Aside0.mk hl203_1
                                            clear hi203_1 hl203_1
                                            replace p203 := eq_true p203
                                            replace q203 := eq_true q203
                                            have p204 : 0 ≤ (x16_5 : Int) := of_decide_eq_true (by first | (with_reducible assumption) | assumption)
                                            have q204 : x16_5 < (t199.length : Int) := of_decide_eq_true (by first | (with_reducible assumption) | assumption)
                                            obtain ⟨ad204, A204_1, c204_1, e204, hx204_0, hx204_1, hl204_1, hi204_1⟩ := at_T34 (Kd.R_reads' HO_14.out).2.2 x16_5 p204 q204
                                            obtain rfl : ad203 = ad204 := (by injection e204)
                                            obtain ⟨ce204, hce204, hMe204, hcc204⟩ := Kd.R_get HO_14.out z34 x16_5 p204 (by first | exact q204 | exact of_decide_eq_true (by first | (with_reducible assumption) | assumption) | (have e_ := (Kd.R_reads' HO_14.out).1; omega))
                                            obtain ⟨ve204_1, rfl, ge204_1⟩ := k34_openM hMe204
                                            have hv204_1 := hcc204 1 _ rfl
                                            rw [add_field _ _ 1 (by omega)] at hv204_1
                                            replace hv204_1 := Option.some.inj (hv204_1.symm.trans hx204_1)
                                            rw [hv204_1] at ge204_1
                                            have HL204_1 := Aside0.mk (show Kd.R (Kd.int .u8) 5 _ _ _ _ ((rd_T34 t199 x16_5).f1) from ge204_1)
                                            clear hv204_1 ge204_1
                                            clear hcc204 hce204
                                            have HR204_1 := Aside0.mk hi204_1
                                            have HC204_1 := Aside0.mk hl204_1
                                            clear hi204_1 hl204_1
                                            replace p204 := eq_true p204
                                            replace q204 := eq_true q204
                                            have ea_ := Option.some.inj (hx203_1.symm.trans hx204_1)
                                            injection ea_ with ea_ en_ ec_
                                            subst ea_
                                            subst ec_
                                            clear en_
                                            have p205 : 0 ≤ (x16_5 : Int) := of_decide_eq_true (by first | (with_reducible assumption) | assumption)
                                            have q205 : x16_5 < (t199.length : Int) := of_decide_eq_true (by first | (with_reducible assumption) | assumption)
                                            obtain ⟨ad205, A205_1, c205_1, e205, hx205_0, hx205_1, hl205_1, hi205_1⟩ := at_T34 (Kd.R_reads' HO_14.out).2.2 x16_5 p205 q205
                                            obtain rfl : ad203 = ad205 := (by injection e205)
                                            obtain ⟨ce205, hce205, hMe205, hcc205⟩ := Kd.R_get HO_14.out z34 x16_5 p205 (by first | exact q205 | exact of_decide_eq_true (by first | (with_reducible assumption) | assumption) | (have e_ := (Kd.R_reads' HO_14.out).1; omega))
                                            obtain ⟨ve205_1, rfl, ge205_1⟩ := k34_openM hMe205
                                            have hv205_1 := hcc205 1 _ rfl
                                            rw [add_field _ _ 1 (by omega)] at hv205_1
                                            replace hv205_1 := Option.some.inj (hv205_1.symm.trans hx205_1)
                                            rw [hv205_1] at ge205_1
                                            have HL205_1 := Aside0.mk (show Kd.R (Kd.int .u8) 5 _ _ _ _ ((rd_T34 t199 x16_5).f1) from ge205_1)
                                            clear hv205_1 ge205_1
                                            clear hcc205 hce205
                                            have HR205_1 := Aside0.mk hi205_1
                                            have HC205_1 := Aside0.mk hl205_1
                                            clear hi205_1 hl205_1
                                            replace p205 := eq_true p205
                                            replace q205 := eq_true q205
                                            have ea_ := Option.some.inj (hx203_1.symm.trans hx205_1)
                                            injection ea_ with ea_ en_ ec_
                                            subst ea_
                                            subst ec_
                                            clear en_
                                            go_wp2
                                            go_ret
                                            exact ⟨by first | rfl | (simp [errW_none, errW_some] <;> rfl) | (simp [*, errW_none, errW_some] <;> rfl), by repeat (first | (with_reducible first | exact HB.out | apply below_alloc | apply pw_below_drewN | apply below_drew1) | exact HB.out)⟩
                                          · rw [if_neg c41] at H
                                            have c41b0 : decide (1 < ((rd_T34 t199 x16_5).f0)) = false := decide_eq_false c41
                                            clear c41
                                            by_cases c43 : (x16_5 = (wrap64 ((t199.length : Int) - 1)))
                                            · rw [if_pos c43] at H
                                              have c43b0 : (x16_5 == (wrap64 ((t199.length : Int) - 1))) = true := beq_iff_eq.mpr c43
                                              have c43b1 : (x16_5 != (wrap64 ((t199.length : Int) - 1))) = false := bne_eq_false_iff_eq.mpr c43
                                              clear c43
                                              have H' := Aside0.mk H
                                              clear H
                                              obtain ⟨Ao44, co44, eo44⟩ := Kd.R_slice HO_14.out
                                              subst eo44
                                              have p203 : 0 ≤ (x16_5 : Int) := of_decide_eq_true (by first | (with_reducible assumption) | assumption)
                                              have q203 : x16_5 < (t199.length : Int) := of_decide_eq_true (by first | (with_reducible assumption) | assumption)
                                              obtain ⟨ad203, A203_1, c203_1, e203, hx203_0, hx203_1, hl203_1, hi203_1⟩ := at_T34 (Kd.R_reads' HO_14.out).2.2 x16_5 p203 q203
                                              cases e203
                                              obtain ⟨ce203, hce203, hMe203, hcc203⟩ := Kd.R_get HO_14.out z34 x16_5 p203 (by first | exact q203 | exact of_decide_eq_true (by first | (with_reducible assumption) | assumption) | (have e_ := (Kd.R_reads' HO_14.out).1; omega))
                                              obtain ⟨ve203_1, rfl, ge203_1⟩ := k34_openM hMe203
                                              have hv203_1 := hcc203 1 _ rfl
                                              rw [add_field _ _ 1 (by omega)] at hv203_1
                                              replace hv203_1 := Option.some.inj (hv203_1.symm.trans hx203_1)
                                              rw [hv203_1] at ge203_1
                                              have HL203_1 := Aside0.mk (show Kd.R (Kd.int .u8) 5 _ _ _ _ ((rd_T34 t199 x16_5).f1) from ge203_1)
                                              clear hv203_1 ge203_1
                                              clear hcc203 hce203
                                              have HR203_1 := Aside0.mk hi203_1
                                              have HC203_1 := Aside0.mk hl203_1
                                              clear hi203_1 hl203_1
                                              replace p203 := eq_true p203
                                              replace q203 := eq_true q203
                                              have p204 : 0 ≤ (x16_5 : Int) := of_decide_eq_true (by first | (with_reducible assumption) | assumption)
                                              have q204 : x16_5 < (t199.length : Int) := of_decide_eq_true (by first | (with_reducible assumption) | assumption)
                                              obtain ⟨ad204, A204_1, c204_1, e204, hx204_0, hx204_1, hl204_1, hi204_1⟩ := at_T34 (Kd.R_reads' HO_14.out).2.2 x16_5 p204 q204
                                              obtain rfl : ad203 = ad204 := (by injection e204)
                                              obtain ⟨ce204, hce204, hMe204, hcc204⟩ := Kd.R_get HO_14.out z34 x16_5 p204 (by first | exact q204 | exact of_decide_eq_true (by first | (with_reducible assumption) | assumption) | (have e_ := (Kd.R_reads' HO_14.out).1; omega))
                                              obtain ⟨ve204_1, rfl, ge204_1⟩ := k34_openM hMe204
                                              have hv204_1 := hcc204 1 _ rfl
                                              rw [add_field _ _ 1 (by omega)] at hv204_1
                                              replace hv204_1 := Option.some.inj (hv204_1.symm.trans hx204_1)
                                              rw [hv204_1] at ge204_1
                                              have HL204_1 := Aside0.mk (show Kd.R (Kd.int .u8) 5 _ _ _ _ ((rd_T34 t199 x16_5).f1) from ge204_1)
                                              clear hv204_1 ge204_1
                                              clear hcc204 hce204
                                              have HR204_1 := Aside0.mk hi204_1
                                              have HC204_1 := Aside0.mk hl204_1
                                              clear hi204_1 hl204_1
                                              replace p204 := eq_true p204
                                              replace q204 := eq_true q204
                                              have ea_ := Option.some.inj (hx203_1.symm.trans hx204_1)
                                              injection ea_ with ea_ en_ ec_
                                              subst ea_
                                              subst ec_
                                              clear en_
                                              have p205 : 0 ≤ (x16_5 : Int) := of_decide_eq_true (by first | (with_reducible assumption) | assumption)
                                              have q205 : x16_5 < (t199.length : Int) := of_decide_eq_true (by first | (with_reducible assumption) | assumption)
                                              obtain ⟨ad205, A205_1, c205_1, e205, hx205_0, hx205_1, hl205_1, hi205_1⟩ := at_T34 (Kd.R_reads' HO_14.out).2.2 x16_5 p205 q205
                                              obtain rfl : ad203 = ad205 := (by injection e205)
                                              obtain ⟨ce205, hce205, hMe205, hcc205⟩ := Kd.R_get HO_14.out z34 x16_5 p205 (by first | exact q205 | exact of_decide_eq_true (by first | (with_reducible assumption) | assumption) | (have e_ := (Kd.R_reads' HO_14.out).1; omega))
                                              obtain ⟨ve205_1, rfl, ge205_1⟩ := k34_openM hMe205
                                              have hv205_1 := hcc205 1 _ rfl
                                              rw [add_field _ _ 1 (by omega)] at hv205_1
                                              replace hv205_1 := Option.some.inj (hv205_1.symm.trans hx205_1)
                                              rw [hv205_1] at ge205_1
                                              have HL205_1 := Aside0.mk (show Kd.R (Kd.int .u8) 5 _ _ _ _ ((rd_T34 t199 x16_5).f1) from ge205_1)
                                              clear hv205_1 ge205_1
                                              clear hcc205 hce205
                                              have HR205_1 := Aside0.mk hi205_1
                                              have HC205_1 := Aside0.mk hl205_1
                                              clear hi205_1 hl205_1
                                              replace p205 := eq_true p205
                                              replace q205 := eq_true q205
                                              have ea_ := Option.some.inj (hx203_1.symm.trans hx205_1)
                                              injection ea_ with ea_ en_ ec_
                                              subst ea_
                                              subst ec_
                                              clear en_
                                              go_wp2
                                              go_roundg k5
                                              case measure => have := HJ3.out; have := HJ15.out; have := HJ26.out; have := HJ30.out; have := HK5.out; omega
                                              case rel => exact ⟨(wrap64 (x16_5 + 1)), (by first | rfl | (simp; done) | (simp [*]; done)), H', ⟨by have := HJ3.out; have := HJ15.out; have := HJ26.out; have := HJ30.out; have := HK5.out; omega⟩, ⟨by (with_reducible repeat (first | apply Kd.R_alloc | apply Kd.R_drewN | apply Kd.R_drew)); exact HO_10.out⟩, ⟨by (with_reducible repeat (first | apply Kd.R_alloc | apply Kd.R_drewN | apply Kd.R_drew)); exact HO_14.out⟩, ⟨by repeat (first | (with_reducible first | exact HB.out | apply below_alloc | apply pw_below_drewN | apply below_drew1) | exact HB.out)⟩⟩
                                            · exact absurd (by first | assumption | exact beq_iff_eq.mp (by assumption)) c43
                                      · rw [if_neg c38] at H
                                        have c38b0 : (x16_5 == (wrap64 ((t199.length : Int) - 1))) = false := beq_eq_false_iff_ne.mpr c38
                                        have c38b1 : (x16_5 != (wrap64 ((t199.length : Int) - 1))) = true := bne_iff_ne.mpr c38
                                        by_cases c51 : (x16_5 = (wrap64 ((t199.length : Int) - 1)))
                                        · exact absurd c51 (by first | assumption | exact ne_of_beq_false (by assumption))
                                        · rw [if_neg c51] at H
                                          have c51b0 : (x16_5 == (wrap64 ((t199.length : Int) - 1))) = false := beq_eq_false_iff_ne.mpr c51
                                          have c51b1 : (x16_5 != (wrap64 ((t199.length : Int) - 1))) = true := bne_iff_ne.mpr c51
                                          replace H := Option.bind_eq_some_iff.mp H
                                          obtain ⟨t209, A530, H⟩ := H
                                          replace H : (if t209 = true then (beryllaw20_DiskRoom.l0 k5 t186 t193 t199 (wrap64 (x16_5 + 1))) else (some false)) = some r := H
                                          have A53 := Aside0.mk A530
                                          clear A530
                                          by_cases c54 : t209 = true
                                          · subst c54
                                            have H1 : (beryllaw20_DiskRoom.l0 k5 t186 t193 t199 (wrap64 (x16_5 + 1))) = some r := by rw [if_pos rfl] at H; exact H
                                            clear H
                                            have H := H1
                                            clear H1
                                            have H' := Aside0.mk H
                                            clear H
                                            obtain ⟨Ao55, co55, eo55⟩ := Kd.R_slice HO_14.out
                                            subst eo55
                                            have p203 : 0 ≤ (x16_5 : Int) := of_decide_eq_true (by first | (with_reducible assumption) | assumption)
                                            have q203 : x16_5 < (t199.length : Int) := of_decide_eq_true (by first | (with_reducible assumption) | assumption)
                                            obtain ⟨ad203, A203_1, c203_1, e203, hx203_0, hx203_1, hl203_1, hi203_1⟩ := at_T34 (Kd.R_reads' HO_14.out).2.2 x16_5 p203 q203
                                            cases e203
                                            obtain ⟨ce203, hce203, hMe203, hcc203⟩ := Kd.R_get HO_14.out z34 x16_5 p203 (by first | exact q203 | exact of_decide_eq_true (by first | (with_reducible assumption) | assumption) | (have e_ := (Kd.R_reads' HO_14.out).1; omega))
                                            obtain ⟨ve203_1, rfl, ge203_1⟩ := k34_openM hMe203
                                            have hv203_1 := hcc203 1 _ rfl
                                            rw [add_field _ _ 1 (by omega)] at hv203_1
                                            replace hv203_1 := Option.some.inj (hv203_1.symm.trans hx203_1)
                                            rw [hv203_1] at ge203_1
                                            have HL203_1 := Aside0.mk (show Kd.R (Kd.int .u8) 5 _ _ _ _ ((rd_T34 t199 x16_5).f1) from ge203_1)
                                            clear hv203_1 ge203_1
                                            clear hcc203 hce203
                                            have HR203_1 := Aside0.mk hi203_1
                                            have HC203_1 := Aside0.mk hl203_1
                                            clear hi203_1 hl203_1
                                            replace p203 := eq_true p203
                                            replace q203 := eq_true q203
                                            have p208 : 0 ≤ (x16_5 : Int) := of_decide_eq_true (by first | (with_reducible assumption) | assumption)
                                            have q208 : x16_5 < (t199.length : Int) := of_decide_eq_true (by first | (with_reducible assumption) | assumption)
                                            obtain ⟨ad208, A208_1, c208_1, e208, hx208_0, hx208_1, hl208_1, hi208_1⟩ := at_T34 (Kd.R_reads' HO_14.out).2.2 x16_5 p208 q208
                                            obtain rfl : ad203 = ad208 := (by injection e208)
                                            obtain ⟨ce208, hce208, hMe208, hcc208⟩ := Kd.R_get HO_14.out z34 x16_5 p208 (by first | exact q208 | exact of_decide_eq_true (by first | (with_reducible assumption) | assumption) | (have e_ := (Kd.R_reads' HO_14.out).1; omega))
                                            obtain ⟨ve208_1, rfl, ge208_1⟩ := k34_openM hMe208
                                            have hv208_1 := hcc208 1 _ rfl
                                            rw [add_field _ _ 1 (by omega)] at hv208_1
                                            replace hv208_1 := Option.some.inj (hv208_1.symm.trans hx208_1)
                                            rw [hv208_1] at ge208_1
                                            have HL208_1 := Aside0.mk (show Kd.R (Kd.int .u8) 5 _ _ _ _ ((rd_T34 t199 x16_5).f1) from ge208_1)
                                            clear hv208_1 ge208_1
                                            clear hcc208 hce208
                                            have HR208_1 := Aside0.mk hi208_1
                                            have HC208_1 := Aside0.mk hl208_1
                                            clear hi208_1 hl208_1
                                            replace p208 := eq_true p208
                                            replace q208 := eq_true q208
                                            have ea_ := Option.some.inj (hx203_1.symm.trans hx208_1)
                                            injection ea_ with ea_ en_ ec_
                                            subst ea_
                                            subst ec_
                                            clear en_
                                            obtain ⟨Ao56, co56, eo56⟩ := Kd.R_slice HO_10.out
                                            subst eo56
                                            go_wp2_with (first | (go_at_call 22; (with_reducible refine (beryllaw20_has.calls k5 _ _ t193 ((rd_T34 t199 x16_5).f0) true _ ?side1 ?side2 A53.out).mono ?_); (case side1 => repeat (first | exact (Kd.R_reads' HO_10.out).2.2 | (with_reducible refine Kd.C_alloc ?_ _) | (with_reducible refine Kd.C_drewN ?_ _) | (with_reducible refine Kd.C_drew ?_))); (case side2 => exact (Kd.R_reads' HO_10.out).2.1); rintro e w' ⟨rfl, ⟨nd, rfl⟩⟩))
                                            go_roundg k5
                                            case measure => have := HJ3.out; have := HJ15.out; have := HJ26.out; have := HJ30.out; have := HK5.out; omega
                                            case rel => exact ⟨(wrap64 (x16_5 + 1)), (by first | rfl | (simp; done) | (simp [*]; done)), H', ⟨by have := HJ3.out; have := HJ15.out; have := HJ26.out; have := HJ30.out; have := HK5.out; omega⟩, ⟨by (with_reducible repeat (first | apply Kd.R_alloc | apply Kd.R_drewN | apply Kd.R_drew)); exact HO_10.out⟩, ⟨by (with_reducible repeat (first | apply Kd.R_alloc | apply Kd.R_drewN | apply Kd.R_drew)); exact HO_14.out⟩, ⟨by repeat (first | (with_reducible first | exact HB.out | apply below_alloc | apply pw_below_drewN | apply below_drew1) | exact HB.out)⟩⟩
                                          · replace c54 := Bool.eq_false_iff.mpr c54
                                            subst c54
                                            have H1 : (some false) = some r := by rw [if_neg (show ¬ (false = true) by decide)] at H; exact H
                                            clear H
                                            have H := H1
                                            clear H1
                                            obtain rfl := Option.some.inj H
                                            obtain ⟨Ao57, co57, eo57⟩ := Kd.R_slice HO_14.out
                                            subst eo57
                                            have p203 : 0 ≤ (x16_5 : Int) := of_decide_eq_true (by first | (with_reducible assumption) | assumption)
                                            have q203 : x16_5 < (t199.length : Int) := of_decide_eq_true (by first | (with_reducible assumption) | assumption)
                                            obtain ⟨ad203, A203_1, c203_1, e203, hx203_0, hx203_1, hl203_1, hi203_1⟩ := at_T34 (Kd.R_reads' HO_14.out).2.2 x16_5 p203 q203
                                            cases e203
                                            obtain ⟨ce203, hce203, hMe203, hcc203⟩ := Kd.R_get HO_14.out z34 x16_5 p203 (by first | exact q203 | exact of_decide_eq_true (by first | (with_reducible assumption) | assumption) | (have e_ := (Kd.R_reads' HO_14.out).1; omega))
                                            obtain ⟨ve203_1, rfl, ge203_1⟩ := k34_openM hMe203
                                            have hv203_1 := hcc203 1 _ rfl
                                            rw [add_field _ _ 1 (by omega)] at hv203_1
                                            replace hv203_1 := Option.some.inj (hv203_1.symm.trans hx203_1)
                                            rw [hv203_1] at ge203_1
                                            have HL203_1 := Aside0.mk (show Kd.R (Kd.int .u8) 5 _ _ _ _ ((rd_T34 t199 x16_5).f1) from ge203_1)
                                            clear hv203_1 ge203_1
                                            clear hcc203 hce203
                                            have HR203_1 := Aside0.mk hi203_1
                                            have HC203_1 := Aside0.mk hl203_1
                                            clear hi203_1 hl203_1
                                            replace p203 := eq_true p203
                                            replace q203 := eq_true q203
                                            have p208 : 0 ≤ (x16_5 : Int) := of_decide_eq_true (by first | (with_reducible assumption) | assumption)
                                            have q208 : x16_5 < (t199.length : Int) := of_decide_eq_true (by first | (with_reducible assumption) | assumption)
                                            obtain ⟨ad208, A208_1, c208_1, e208, hx208_0, hx208_1, hl208_1, hi208_1⟩ := at_T34 (Kd.R_reads' HO_14.out).2.2 x16_5 p208 q208
                                            obtain rfl : ad203 = ad208 := (by injection e208)
                                            obtain ⟨ce208, hce208, hMe208, hcc208⟩ := Kd.R_get HO_14.out z34 x16_5 p208 (by first | exact q208 | exact of_decide_eq_true (by first | (with_reducible assumption) | assumption) | (have e_ := (Kd.R_reads' HO_14.out).1; omega))
                                            obtain ⟨ve208_1, rfl, ge208_1⟩ := k34_openM hMe208
                                            have hv208_1 := hcc208 1 _ rfl
                                            rw [add_field _ _ 1 (by omega)] at hv208_1
                                            replace hv208_1 := Option.some.inj (hv208_1.symm.trans hx208_1)
                                            rw [hv208_1] at ge208_1
                                            have HL208_1 := Aside0.mk (show Kd.R (Kd.int .u8) 5 _ _ _ _ ((rd_T34 t199 x16_5).f1) from ge208_1)
                                            clear hv208_1 ge208_1
                                            clear hcc208 hce208
                                            have HR208_1 := Aside0.mk hi208_1
                                            have HC208_1 := Aside0.mk hl208_1
                                            clear hi208_1 hl208_1
                                            replace p208 := eq_true p208
                                            replace q208 := eq_true q208
                                            have ea_ := Option.some.inj (hx203_1.symm.trans hx208_1)
                                            injection ea_ with ea_ en_ ec_
                                            subst ea_
                                            subst ec_
                                            clear en_
                                            obtain ⟨Ao58, co58, eo58⟩ := Kd.R_slice HO_10.out
                                            subst eo58
                                            go_wp2_with (first | (go_at_call 22; (with_reducible refine (beryllaw20_has.calls k5 _ _ t193 ((rd_T34 t199 x16_5).f0) false _ ?side1 ?side2 A53.out).mono ?_); (case side1 => repeat (first | exact (Kd.R_reads' HO_10.out).2.2 | (with_reducible refine Kd.C_alloc ?_ _) | (with_reducible refine Kd.C_drewN ?_ _) | (with_reducible refine Kd.C_drew ?_))); (case side2 => exact (Kd.R_reads' HO_10.out).2.1); rintro e w' ⟨rfl, ⟨nd, rfl⟩⟩))
                                            go_ret
                                            exact ⟨by first | rfl | (simp [errW_none, errW_some] <;> rfl) | (simp [*, errW_none, errW_some] <;> rfl), by repeat (first | (with_reducible first | exact HB.out | apply below_alloc | apply pw_below_drewN | apply below_drew1) | exact HB.out)⟩
                                    · rw [if_neg c37] at H
                                      have c37b0 : ((((rd_T34 t199 x16_5).f1).length : Int) == 64) = false := beq_eq_false_iff_ne.mpr c37
                                      have c37b1 : ((((rd_T34 t199 x16_5).f1).length : Int) != 64) = true := bne_iff_ne.mpr c37
                                      obtain rfl := Option.some.inj H
                                      obtain ⟨Ao59, co59, eo59⟩ := Kd.R_slice HO_14.out
                                      subst eo59
                                      have p203 : 0 ≤ (x16_5 : Int) := of_decide_eq_true (by first | (with_reducible assumption) | assumption)
                                      have q203 : x16_5 < (t199.length : Int) := of_decide_eq_true (by first | (with_reducible assumption) | assumption)
                                      obtain ⟨ad203, A203_1, c203_1, e203, hx203_0, hx203_1, hl203_1, hi203_1⟩ := at_T34 (Kd.R_reads' HO_14.out).2.2 x16_5 p203 q203
                                      cases e203
                                      obtain ⟨ce203, hce203, hMe203, hcc203⟩ := Kd.R_get HO_14.out z34 x16_5 p203 (by first | exact q203 | exact of_decide_eq_true (by first | (with_reducible assumption) | assumption) | (have e_ := (Kd.R_reads' HO_14.out).1; omega))
                                      obtain ⟨ve203_1, rfl, ge203_1⟩ := k34_openM hMe203
                                      have hv203_1 := hcc203 1 _ rfl
                                      rw [add_field _ _ 1 (by omega)] at hv203_1
                                      replace hv203_1 := Option.some.inj (hv203_1.symm.trans hx203_1)
                                      rw [hv203_1] at ge203_1
                                      have HL203_1 := Aside0.mk (show Kd.R (Kd.int .u8) 5 _ _ _ _ ((rd_T34 t199 x16_5).f1) from ge203_1)
                                      clear hv203_1 ge203_1
                                      clear hcc203 hce203
                                      have HR203_1 := Aside0.mk hi203_1
                                      have HC203_1 := Aside0.mk hl203_1
                                      clear hi203_1 hl203_1
                                      replace p203 := eq_true p203
                                      replace q203 := eq_true q203
                                      go_wp2
                                      go_ret
                                      exact ⟨by first | rfl | (simp [errW_none, errW_some] <;> rfl) | (simp [*, errW_none, errW_some] <;> rfl), by repeat (first | (with_reducible first | exact HB.out | apply below_alloc | apply pw_below_drewN | apply below_drew1) | exact HB.out)⟩
                                  · rw [if_neg c36] at H
                                    exact absurd H (by simp)
                                · rw [if_neg c35] at H
                                  have c35b0 : decide (x16_5 < (t199.length : Int)) = false := decide_eq_false c35
                                  clear c35
                                  obtain rfl := Option.some.inj H
                                  obtain ⟨Ao60, co60, eo60⟩ := Kd.R_slice HO_14.out
                                  subst eo60
                                  go_wp2
                                  go_ret
                                  exact ⟨by first | rfl | (simp [errW_none, errW_some] <;> rfl) | (simp [*, errW_none, errW_some] <;> rfl), by repeat (first | (with_reducible first | exact HB.out | apply below_alloc | apply pw_below_drewN | apply below_drew1) | exact HB.out)⟩
              · rw [if_neg c26] at H
                have c26b0 : (t192 == 0) = false := beq_eq_false_iff_ne.mpr c26
                have c26b1 : (t192 != 0) = true := bne_iff_ne.mpr c26
                by_cases c61 : t186 = true
                · subst c61
                  have H1 : (some (t200 == 1)) = some r := by rw [if_pos rfl] at H; exact H
                  clear H
                  have H := H1
                  clear H1
                  obtain rfl := Option.some.inj H
                  go_wp2
                  go_ret
                  exact ⟨by first | rfl | (simp [errW_none, errW_some] <;> rfl) | (simp [*, errW_none, errW_some] <;> rfl), by repeat (first | (with_reducible first | exact HB.out | apply below_alloc | apply pw_below_drewN | apply below_drew1) | exact HB.out)⟩
                · replace c61 := Bool.eq_false_iff.mpr c61
                  subst c61
                  have H1 : (some false) = some r := by rw [if_neg (show ¬ (false = true) by decide)] at H; exact H
                  clear H
                  have H := H1
                  clear H1
                  obtain rfl := Option.some.inj H
                  go_wp2
                  go_ret
                  exact ⟨by first | rfl | (simp [errW_none, errW_some] <;> rfl) | (simp [*, errW_none, errW_some] <;> rfl), by repeat (first | (with_reducible first | exact HB.out | apply below_alloc | apply pw_below_drewN | apply below_drew1) | exact HB.out)⟩

end Go.Proofs.Ytcdpkdehogcjnaa.Print
