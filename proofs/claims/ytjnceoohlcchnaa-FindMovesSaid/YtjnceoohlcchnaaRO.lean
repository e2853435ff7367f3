/- The reference's copies, lists, looking, forgetting and making: contracts, whatever the input. -/
import Derived.Test.YtjnceoohlcchnaaR0
import Derived.Test.YtjnceoohlcchnaaRC
import Derived.Test.YtjnceoohlcchnaaRM
import Derived.Test.YtjnceoohlcchnaaRJ
import Derived.Test.YtjnceoohlcchnaaRE
import Derived.Deep.DeepCutAuto
import Derived.Deep.CutBlock
set_option linter.unusedVariables false
set_option linter.unusedSimpArgs false
-- written by wip/dev/pprint.py (over the kit's printer), laid by relay.py
namespace Go.Proofs.Ytjnceoohlcchnaa.Print
open Go.RowKit Go.Proofs.YtjnceoohlcchnaaW.PrintWords Go.Proofs.YtjnceoohlcchnaaW.PrintLast Go.Proofs.YtjnceoohlcchnaaW.PrintMore
attribute [local go_sem] max2_int min2_int max_two min_two max_three min_three max_four min_four   -- for this text's walks alone
set_option linter.unusedVariables false
set_option linter.unusedSimpArgs false






/-! ### berylref17_Copy: function 74 -/
def berylref17_Copy.l0 : Nat → List (S36) → List (S36) → Int → Option ((List (S36)))
  | 0, _, _, _ => none
  | k + 1, x0, x3, x4 => if x4 < (x0.length : Int) then (if 0 ≤ x4 then (if ([] : List (S31)).length + ((rd_T36 x0 x4).f1).length < 5864062014805 then (if ([] : List (S31)).length + ((rd_T36 x0 x4).f2).length < 5864062014805 then (if x3.length < 2513169434916 then (berylref17_Copy.l0 k x0 (x3 ++ [(⟨(rd_T36 x0 x4).f0, (([] : List (S31)) ++ ((rd_T36 x0 x4).f1)), (([] : List (S31)) ++ ((rd_T36 x0 x4).f2))⟩ : S36)]) (wrap64 (x4 + 1))) else (none)) else (none)) else (none)) else (none)) else (some x3)
def berylref17_Copy.f (k : Nat) (l0 : List (S36)) : Option ((List (S36))) := berylref17_Copy.l0 k l0 ([] : List (S36)) 0
theorem berylref17_Copy.mono_l : ∀ k, (∀ y0 y1 y2, LeO (berylref17_Copy.l0 k y0 y1 y2) (berylref17_Copy.l0 (k + 1) y0 y1 y2))
  | 0 => fun _ _ _ r h => by simp [berylref17_Copy.l0] at h
  | k + 1 => by
    have ih0 := berylref17_Copy.mono_l k
    · intro y0 y1 y2
      unfold berylref17_Copy.l0
      repeat' first
      | (with_reducible exact ih0 _ _ _)
      | (with_reducible exact LeO.refl _)
      | (with_reducible exact LeO.none _)
      | (with_reducible refine LeO.ite ?_ ?_)
      | (with_reducible refine LeO.bind ?_ (fun _ => ?_))
      | exact ih0 _ _ _
      | exact LeO.none _
      | refine LeO.ite ?_ ?_
      | refine LeO.bind ?_ (fun _ => ?_)
theorem berylref17_Copy.mono : ∀ a0 k, LeO (berylref17_Copy.f k a0) (berylref17_Copy.f (k + 1) a0) := by
  intro a0 k
  have ih0 := berylref17_Copy.mono_l k
  unfold berylref17_Copy.f
  repeat' first
      | (with_reducible exact ih0 _ _ _)
      | (with_reducible exact LeO.refl _)
      | (with_reducible exact LeO.none _)
      | (with_reducible refine LeO.ite ?_ ?_)
      | (with_reducible refine LeO.bind ?_ (fun _ => ?_))
      | exact ih0 _ _ _
      | exact LeO.none _
      | refine LeO.ite ?_ ?_
      | refine LeO.bind ?_ (fun _ => ?_)
def berylref17_Copy.T6 : Bool × List (List Nat × List Nat) := (true, [([], []), ([0], [0]), ([], []), ([], []), ([2, 3], [2, 3]), ([4], [4]), ([5], [5]), ([1, 6], [1, 6]), ([0, 1, 2, 3, 4, 5, 6, 7], []), ([8, 7, 7, 0, 1, 2, 3, 4, 5, 6, 7], [7, 8])])
def berylref17_Copy.B6 : List Nat := [0, 1, 0, 0, 12, 28, 60, 127, 255, 511]
theorem berylref17_Copy.tab6 : rtab .any (opsOf Try.f74 6) = berylref17_Copy.T6 := by kernel_rfl
theorem berylref17_Copy.bits6 : waitsOk berylref17_Copy.T6.2 berylref17_Copy.B6 = true := by kernel_rfl
def berylref17_Copy.T7 : Bool × List (List Nat × List Nat) := (true, [([], []), ([0], [0]), ([], []), ([], []), ([2, 3], [2, 3]), ([4], [4]), ([5], [5]), ([1, 6], [1, 6]), ([0, 1, 2, 3, 4, 5, 6, 7], []), ([8, 7, 7, 0, 1, 2, 3, 4, 5, 6, 7], [7, 8])])
def berylref17_Copy.B7 : List Nat := [0, 1, 0, 0, 12, 28, 60, 127, 255, 511]
theorem berylref17_Copy.tab7 : rtab .any (opsOf Try.f74 7) = berylref17_Copy.T7 := by kernel_rfl
theorem berylref17_Copy.bits7 : waitsOk berylref17_Copy.T7.2 berylref17_Copy.B7 = true := by kernel_rfl
set_option maxHeartbeats 8000000 in
set_option maxRecDepth 100000 in
theorem berylref17_Copy.calls (k : Nat) (A0 : Option Addr) (c0 : Nat) (l0 : List (S36)) (r : List (S36)) (w : World) (hr0 : Kd.C k36 w A0 l0.length l0) (hc0 : l0.length ≤ c0) (h : berylref17_Copy.f k l0 = some r) :
    Calls Try.prog 74 #[.slice A0 l0.length c0] w fun e w' => ∃ v0_ : Value, e = .returned (v0_) ∧ Kd.S k36 36 w' w.heap.size (fun _ => True) v0_ r ∧ Below w.heap.size w w' := by
  have hu36 := Try.underlying36
  have HR0 := Aside0.mk hr0
  have HC0 := Aside0.mk hc0
  clear hr0 hc0
  have HB := Aside0.mk (Below.refl w.heap.size w)
  have H : (berylref17_Copy.l0 k l0 ([] : List (S36)) 0) = some r := h
  clear h
  have H' := Aside0.mk H
  clear H
  go_enter Try.func74, Try.ntmps74
  go_wp2
  go_loopg [3, 4] k (fun kq v3 v4 w' => ∃ (x3_1 : List (S36)) (x4_1 : Int), v4 = .int .i64 x4_1 ∧ Aside0 (berylref17_Copy.l0 kq l0 x3_1 x4_1 = some r) ∧ Aside0 (kq ≤ k) ∧ Aside0 (Kd.S k36 36 w' w.heap.size (fun _ => True) v3 x3_1) ∧ Aside0 (Below w.heap.size w w'))
  case atStart => exact ⟨(([] : List (S36))), (0), (by first | rfl | (simp; done) | (simp [*]; done)), H', ⟨Nat.le_refl _⟩, ⟨by first | exact Kd.S_nil _ _ _ _ _ | exact Kd.N_nil _ _ _ _ _ | exact Kd.V_nil _ _ _ _ _ | exact Kd.Q_nil _ _ _ _ _ | exact Kd.R_nil _ _ _ _ _⟩, ⟨by repeat (first | (with_reducible first | exact HB.out | apply below_alloc | apply pw_below_drewN | apply below_drew1) | exact HB.out)⟩⟩
  case round =>
    clear H'
    obtain ⟨x3_1, x4_1, rfl, HA, HK1, HO_3, HB⟩ := hrel
    cases gk with
    | zero => exact absurd HA.out (by simp [berylref17_Copy.l0])
    | succ k1 =>
      have H := HA.out
      clear HA
      simp only [berylref17_Copy.l0] at H
      by_cases c2 : x4_1 < (l0.length : Int)
      · rw [if_pos c2] at H
        have c2b0 : decide (x4_1 < (l0.length : Int)) = true := decide_eq_true c2
        clear c2
        by_cases c3 : 0 ≤ x4_1
        · rw [if_pos c3] at H
          have c3b0 : decide (0 ≤ x4_1) = true := decide_eq_true c3
          clear c3
          by_cases c4 : ([] : List (S31)).length + ((rd_T36 l0 x4_1).f1).length < 5864062014805
          · rw [if_pos c4] at H
            have LMc4 := Aside0.mk c4
            clear c4
            obtain ⟨y208, hy208⟩ : ∃ y_ : List (S31), y_ = (([] : List (S31)) ++ ((rd_T36 l0 x4_1).f1)) := ⟨_, rfl⟩
            replace H : (if ([] : List (S31)).length + ((rd_T36 l0 x4_1).f2).length < 5864062014805 then (if x3_1.length < 2513169434916 then (berylref17_Copy.l0 k1 l0 (x3_1 ++ [(⟨(rd_T36 l0 x4_1).f0, y208, (([] : List (S31)) ++ ((rd_T36 l0 x4_1).f2))⟩ : S36)]) (wrap64 (x4_1 + 1))) else (none)) else (none)) = some r := by first | (rw [hy208]; with_reducible exact H) | (have H2_ := (Option.bind_some _ _).symm.trans H; rw [hy208]; with_reducible exact H2_) | (have H2_ := (Option.bind_some _ _).symm.trans H; with_reducible exact H2_) | with_reducible exact H | (rw [hy208]; exact H) | exact H
            have Ny208 := Aside0.mk hy208
            clear hy208
            by_cases c5 : ([] : List (S31)).length + ((rd_T36 l0 x4_1).f2).length < 5864062014805
            · rw [if_pos c5] at H
              have LMc5 := Aside0.mk c5
              clear c5
              obtain ⟨y212, hy212⟩ : ∃ y_ : List (S31), y_ = (([] : List (S31)) ++ ((rd_T36 l0 x4_1).f2)) := ⟨_, rfl⟩
              replace H : (if x3_1.length < 2513169434916 then (berylref17_Copy.l0 k1 l0 (x3_1 ++ [(⟨(rd_T36 l0 x4_1).f0, y208, y212⟩ : S36)]) (wrap64 (x4_1 + 1))) else (none)) = some r := by first | (rw [hy212]; with_reducible exact H) | (have H2_ := (Option.bind_some _ _).symm.trans H; rw [hy212]; with_reducible exact H2_) | (have H2_ := (Option.bind_some _ _).symm.trans H; with_reducible exact H2_) | with_reducible exact H | (rw [hy212]; exact H) | exact H
              have Ny212 := Aside0.mk hy212
              clear hy212
              by_cases c6 : x3_1.length < 2513169434916
              · rw [if_pos c6] at H
                have LMc6 := Aside0.mk c6
                clear c6
                obtain ⟨y215, hy215⟩ : ∃ y_ : List (S36), y_ = (x3_1 ++ [(⟨(rd_T36 l0 x4_1).f0, y208, y212⟩ : S36)]) := ⟨_, rfl⟩
                replace H : (berylref17_Copy.l0 k1 l0 y215 (wrap64 (x4_1 + 1))) = some r := by first | (rw [hy215]; with_reducible exact H) | (have H2_ := (Option.bind_some _ _).symm.trans H; rw [hy215]; with_reducible exact H2_) | (have H2_ := (Option.bind_some _ _).symm.trans H; with_reducible exact H2_) | with_reducible exact H | (rw [hy215]; exact H) | exact H
                have Ny215 := Aside0.mk hy215
                clear hy215
                have H' := Aside0.mk H
                clear H
                have p205 : 0 ≤ (x4_1 : Int) := of_decide_eq_true (by first | (with_reducible assumption) | assumption)
                have q205 : x4_1 < (l0.length : Int) := of_decide_eq_true (by first | (with_reducible assumption) | assumption)
                obtain ⟨ad205, A205_1, c205_1, A205_2, c205_2, e205, hx205_0, hx205_1, hx205_2, hl205_1, hi205_1, hl205_2, hi205_2⟩ := at_T36 HR0.out x4_1 p205 q205
                cases e205
                replace hx205_0 := (HB.out.cell (World.block_lt_of_cell? w _ hx205_0)).trans hx205_0
                replace hx205_1 := (HB.out.cell (World.block_lt_of_cell? w _ hx205_1)).trans hx205_1
                replace hx205_2 := (HB.out.cell (World.block_lt_of_cell? w _ hx205_2)).trans hx205_2
                have HR205_1 := Aside0.mk hi205_1
                have HC205_1 := Aside0.mk hl205_1
                clear hi205_1 hl205_1
                have HR205_2 := Aside0.mk hi205_2
                have HC205_2 := Aside0.mk hl205_2
                clear hi205_2 hl205_2
                replace p205 := eq_true p205
                replace q205 := eq_true q205
                try go_wp2_with (first | ((with_reducible refine gate_dst (N := 5) rfl ?_); refine box_event ?hg (N := 5) ?hd (cs := #[.bool false, .slice none 0 0, .slice none 0 0]) (t := 36) ?hr ?_; (case hd => rfl); (case hg => rfl); (case hr => first | (go_simp; done) | (go_simp; rfl)); intro gb206 hg w7 hbox hb; have n0_ := Aside0.mk (Kd.S_below (Kd.S_elderB (by (with_reducible repeat (first | apply Kd.S_alloc | apply Kd.S_drewN | apply Kd.S_drew)); exact HO_3.out) gb206 (Nat.le_of_eq hg.symm)) hb); have n1_ := Aside0.mk (below_step (by repeat (first | (with_reducible first | exact HB.out | apply below_alloc | apply pw_below_drewN | apply below_drew1) | exact HB.out)) hb); have n2_ := Aside0.mk (hbox); have n3_ := Aside0.mk ((by rw [hg]; exact (below_size (by repeat (first | (with_reducible first | exact HB.out | apply below_alloc | apply pw_below_drewN | apply below_drew1) | exact HB.out))) : w.heap.size ≤ gb206)); have n4_ := Aside0.mk ((by rw [hg]; exact (below_size (by repeat (first | (with_reducible first | exact HB.out | apply below_alloc | apply pw_below_drewN | apply below_drew1) | exact HB.out))) : w.heap.size ≤ gb206)); clear HO_3; clear HB; have HO_3 := n0_; have HB := n1_; have BK206 := n2_; have GW206 := n3_; have GE206 := n4_; clear n0_ n1_ n2_ n3_ n4_; clear hb hbox hg; have hcz8_0 : w7.cell? ⟨gb206, 0, none⟩ = some (.bool false) := (blk_cell BK206.out 0).trans rfl; have hcz8_1 : w7.cell? ⟨gb206, 1, none⟩ = some (.slice none 0 0) := (blk_cell BK206.out 1).trans rfl; have hcz8_2 : w7.cell? ⟨gb206, 2, none⟩ = some (.slice none 0 0) := (blk_cell BK206.out 2).trans rfl; have hfz8_0 := blk_frozen BK206.out 0; have hfz8_1 := blk_frozen BK206.out 1; have hfz8_2 := blk_frozen BK206.out 2))
                have n0_ : Aside0 (Kd.S k36 36 (((w7.setCell ⟨gb206, 0, none⟩ (.bool ((rd_T36 l0 x4_1).f0))).setCell ⟨gb206, 1, none⟩ (.slice none 0 0)).setCell ⟨gb206, 2, none⟩ (.slice none 0 0)) w.heap.size (fun k_ => k_ ≠ gb206) u3 x3_1) := ⟨by (with_reducible repeat (first | apply Kd.S_alloc | apply Kd.S_drewN | apply Kd.S_drew)); exact Kd.S_mono (Kd.S_far (p := ⟨gb206, 2, none⟩) (Kd.S_far (p := ⟨gb206, 1, none⟩) (Kd.S_far (p := ⟨gb206, 0, none⟩) (Kd.S_mono HO_3.out (fun k_ hk => (⟨hk, hk.2⟩ : _ ∧ k_ ≠ gb206))) (fun _ hk => hk.2) (.bool ((rd_T36 l0 x4_1).f0))) (fun _ hk => hk.2) (.slice none 0 0)) (fun _ hk => hk.2) (.slice none 0 0)) (fun _ hk => hk.1.2)⟩
                have n1_ : Aside0 ((((w7.setCell ⟨gb206, 0, none⟩ (.bool ((rd_T36 l0 x4_1).f0))).setCell ⟨gb206, 1, none⟩ (.slice none 0 0)).setCell ⟨gb206, 2, none⟩ (.slice none 0 0)).heap[gb206]? = some (.cells #[.bool ((rd_T36 l0 x4_1).f0), .slice none 0 0, .slice none 0 0] 36 (0, 0))) := ⟨by (with_reducible repeat (first | refine blk_drewN ?_ _ | refine blk_drew ?_ | refine blk_alloc ?_ _)); refine blk_put (cs := #[.bool ((rd_T36 l0 x4_1).f0), .slice none 0 0, .slice none 0 0]) ?_ 2 _ rfl; (with_reducible repeat (first | refine blk_drewN ?_ _ | refine blk_drew ?_ | refine blk_alloc ?_ _)); refine blk_put (cs := #[.bool ((rd_T36 l0 x4_1).f0), .slice none 0 0, .slice none 0 0]) ?_ 1 _ rfl; (with_reducible repeat (first | refine blk_drewN ?_ _ | refine blk_drew ?_ | refine blk_alloc ?_ _)); refine blk_put (cs := #[.bool false, .slice none 0 0, .slice none 0 0]) ?_ 0 _ rfl; (with_reducible repeat (first | refine blk_drewN ?_ _ | refine blk_drew ?_ | refine blk_alloc ?_ _)); exact BK206.out⟩
                have n2_ : Aside0 (Below w.heap.size w (((w7.setCell ⟨gb206, 0, none⟩ (.bool ((rd_T36 l0 x4_1).f0))).setCell ⟨gb206, 1, none⟩ (.slice none 0 0)).setCell ⟨gb206, 2, none⟩ (.slice none 0 0))) := ⟨by repeat (first | (with_reducible first | exact HB.out | apply below_alloc | apply pw_below_drewN | apply below_drew1 | refine below_set ?_ GE206.out) | exact HB.out)⟩
                (try clear HO_3)
                (try clear BK206)
                (try clear HB)
                generalize (((w7.setCell ⟨gb206, 0, none⟩ (.bool ((rd_T36 l0 x4_1).f0))).setCell ⟨gb206, 1, none⟩ (.slice none 0 0)).setCell ⟨gb206, 2, none⟩ (.slice none 0 0)) = w9 at n0_ n1_ n2_ ⊢
                have HO_3 := n0_
                have BK206 := n1_
                have HB := n2_
                clear n0_ n1_ n2_
                have n0_ := Aside0.mk (Kd.S_drew HO_3.out)
                have n1_ := Aside0.mk (blk_drew BK206.out)
                have n2_ := Aside0.mk (below_drew1 HB.out)
                clear HO_3
                clear BK206
                clear HB
                have HO_3 := n0_
                have BK206 := n1_
                have HB := n2_
                clear n0_ n1_ n2_
                have p207 : 0 ≤ (x4_1 : Int) := of_decide_eq_true (by first | (with_reducible assumption) | assumption)
                have q207 : x4_1 < (l0.length : Int) := of_decide_eq_true (by first | (with_reducible assumption) | assumption)
                obtain ⟨ad207, A207_1, c207_1, A207_2, c207_2, e207, hx207_0, hx207_1, hx207_2, hl207_1, hi207_1, hl207_2, hi207_2⟩ := at_T36 HR0.out x4_1 p207 q207
                have hw207_2 := hx207_2
                have hw207_1 := hx207_1
                have hw207_0 := hx207_0
                obtain rfl : ad205 = ad207 := (by injection e207)
                replace hx207_0 := (HB.out.cell (World.block_lt_of_cell? w _ hx207_0)).trans hx207_0
                replace hx207_1 := (HB.out.cell (World.block_lt_of_cell? w _ hx207_1)).trans hx207_1
                replace hx207_2 := (HB.out.cell (World.block_lt_of_cell? w _ hx207_2)).trans hx207_2
                have HR207_1 := Aside0.mk hi207_1
                have HC207_1 := Aside0.mk hl207_1
                clear hi207_1 hl207_1
                have HR207_2 := Aside0.mk hi207_2
                have HC207_2 := Aside0.mk hl207_2
                clear hi207_2 hl207_2
                replace p207 := eq_true p207
                replace q207 := eq_true q207
                refine start_ (n := 10) (S := fun w' => w'.cell? ⟨gb206, 0, none⟩ = some (.bool ((rd_T36 l0 x4_1).f0)) ∧ w'.cell? ⟨gb206, 1, none⟩ = some (.slice none 0 0) ∧ w'.cell? ⟨gb206, 2, none⟩ = some (.slice none 0 0) ∧ w'.cell? (ad205.add ((x4_1).toNat * 3)) = some (.bool ((rd_T36 l0 x4_1).f0)) ∧ w'.cell? ⟨(ad205.add ((x4_1).toNat * 3)).block, (ad205.add ((x4_1).toNat * 3)).off + 1, none⟩ = some (.slice A207_1 ((rd_T36 l0 x4_1).f1).length c207_1) ∧ w'.cell? ⟨(ad205.add ((x4_1).toNat * 3)).block, (ad205.add ((x4_1).toNat * 3)).off + 2, none⟩ = some (.slice A207_2 ((rd_T36 l0 x4_1).f2).length c207_2)) (ds := [9]) #[false, false, false, false, false, false, false, false, false, false] (by kernel_rfl) rfl rfl ⟨(blk_cell BK206.out 0).trans rfl, (blk_cell BK206.out 1).trans rfl, (blk_cell BK206.out 2).trans rfl, ((HB.out.cell (World.block_lt_of_cell? w _ hw207_0)).trans hw207_0), ((HB.out.cell (World.block_lt_of_cell? w _ hw207_1)).trans hw207_1), ((HB.out.cell (World.block_lt_of_cell? w _ hw207_2)).trans hw207_2)⟩ (fun hHeld => ?_); refine with_tabW berylref17_Copy.tab6 berylref17_Copy.bits6 (fun HT_ HW_ => ?_)
                generalize w9.drew = w10 at HO_3 BK206 HB HR207_1 HR207_2 hx207_0 hx207_1 hx207_2 hHeld ⊢
                refine pure_ (i := 0) (N := some 18) (v := ?_) (a' := ?_) #[true, false, false, false, false, false, false, false, false, false] rfl rfl (any_of HT_.out (by kernel_rfl)) (fun _ _ _ h => h) (Or.inl ⟨by rfl, ?_⟩) ?_ ?_
                rotate_left
                · intro w'
                  go_simp
                  with_reducible rfl
                rotate_left
                · simp only [Act.put, List.setIfInBounds_toArray, List.set_cons_zero, List.set_cons_succ, i64_w, i32_w]
                  rfl
                refine pure_ (i := 2) (N := some 20) (v := ?_) (a' := ?_) #[true, false, true, false, false, false, false, false, false, false] rfl rfl (any_of HT_.out (by kernel_rfl)) (fun _ _ _ h => h) (Or.inl ⟨by rfl, ?_⟩) ?_ ?_
                rotate_left
                · intro w'
                  go_simp
                  with_reducible rfl
                rotate_left
                · simp only [Act.put, List.setIfInBounds_toArray, List.set_cons_zero, List.set_cons_succ, i64_w, i32_w]
                  rfl
                refine pure_ (i := 3) (N := some 21) (v := ?_) (a' := ?_) #[true, false, true, true, false, false, false, false, false, false] rfl rfl (any_of HT_.out (by kernel_rfl)) (fun _ _ _ h => h) (Or.inl ⟨by rfl, ?_⟩) ?_ ?_
                rotate_left
                · intro w'
                  go_simp
                  with_reducible rfl
                rotate_left
                · simp only [Act.put, List.setIfInBounds_toArray, List.set_cons_zero, List.set_cons_succ, i64_w, i32_w]
                  rfl
                refine pure_ (i := 4) (N := some 22) (v := ?_) (a' := ?_) #[true, false, true, true, true, false, false, false, false, false] rfl rfl (any_of HT_.out (by kernel_rfl)) (fun _ _ _ h => h) (Or.inl ⟨by rfl, ?_⟩) ?_ ?_
                rotate_left
                · intro w'
                  go_simp
                  with_reducible rfl
                rotate_left
                · simp only [Act.put, List.setIfInBounds_toArray, List.set_cons_zero, List.set_cons_succ, i64_w, i32_w]
                  rfl
                refine pure_ (i := 5) (N := some 23) (v := ?_) (a' := ?_) #[true, false, true, true, true, true, false, false, false, false] rfl rfl (any_of HT_.out (by kernel_rfl)) (fun _ _ _ h => h) (Or.inl ⟨by rfl, ?_⟩) ?_ ?_
                rotate_left
                · intro w'
                  go_simp
                  with_reducible rfl
                rotate_left
                · simp only [Act.put, List.setIfInBounds_toArray, List.set_cons_zero, List.set_cons_succ, i64_w, i32_w]
                  rfl
                refine take_ (i := 1) (N := some 19) (v := ?_) (a' := ?_) #[true, true, true, true, true, true, false, false, false, false] rfl rfl (take_ofW HT_.out HW_.out (by kernel_rfl)) (fun _ _ _ h => h) (Or.inl ⟨by rfl, ?_⟩) hHeld ?_ ?_
                rotate_left
                · rintro w' ⟨s0, s1, s2, s3, s4, s5⟩
                  go_simp
                  with_reducible rfl
                rotate_left
                · simp only [Act.put, List.setIfInBounds_toArray, List.set_cons_zero, List.set_cons_succ, i64_w, i32_w]
                  rfl
                refine take_ (i := 6) (N := some 24) (v := ?_) (a' := ?_) #[true, true, true, true, true, true, true, false, false, false] rfl rfl (take_ofW HT_.out HW_.out (by kernel_rfl)) (fun _ _ _ h => h) (Or.inl ⟨by rfl, ?_⟩) hHeld ?_ ?_
                rotate_left
                · rintro w' ⟨s0, s1, s2, s3, s4, s5⟩
                  go_simp
                  with_reducible rfl
                rotate_left
                · simp only [Act.put, List.setIfInBounds_toArray, List.set_cons_zero, List.set_cons_succ, i64_w, i32_w]
                  rfl
                refine one_ (i := 7) (N := some 25) #[true, true, true, true, true, true, true, true, false, false] rfl rfl (one_of HT_.out (by kernel_rfl)) (by decide) (fun K hK => ?_)
                refine Kd.R_append_rows_step k31 (w0 := w) w.heap.size (by rfl) (.tmp 19) (.tmp 24) 34 31 (.agg #[(.int .i64 0), (.int .i64 0), (.int .i64 0)]) 24 rfl Try.underlying34 info31 rfl (by decide) (by omega) (.slice none 0 0) ([] : List (S31)) ((rd_T36 l0 x4_1).f1) _ _ _ (fun _ => True) (fun _ => False) rfl rfl ?aO ?aR (fun _ _ h => h) (fun _ h => h.elim) ?aF ?aB ?aS ?aL ?_
                (case aR => repeat (first | exact (Kd.C_below HR207_1.out HB.out) | (with_reducible refine Kd.C_alloc ?_ _) | (with_reducible refine Kd.C_drewN ?_ _) | (with_reducible refine Kd.C_drew ?_)))
                (case aB => exact (by repeat (first | (with_reducible first | exact HB.out | apply below_alloc | apply pw_below_drewN | apply below_drew1 | refine below_set ?_ GE206.out) | exact HB.out)))
                (case aF => exact (fun _ _ => trivial))
                (case aO => exact ((Kd.R_nil _ _ _ _ (fun _ => True))))
                (case aS => exact (below_size (by repeat (first | (with_reducible first | exact HB.out | apply below_alloc | apply pw_below_drewN | apply below_drew1 | refine below_set ?_ GE206.out) | exact HB.out))))
                (case aL => have := LMc4.out; omega)
                intro v209 w11 ho hb hg hat
                rw [← Ny208.out] at ho
                have n0_ := Aside0.mk (Kd.S_after (Kd.S_apart_nil (by (with_reducible repeat (first | apply Kd.S_alloc | apply Kd.S_drewN | apply Kd.S_drew)); exact HO_3.out)) hg hat)
                have n1_ := Aside0.mk (blk_grown (g := gb206) (o := .cells #[.bool ((rd_T36 l0 x4_1).f0), .slice none 0 0, .slice none 0 0] 36 (0, 0)) (by (with_reducible repeat (first | refine blk_drewN ?_ _ | refine blk_drew ?_ | refine blk_alloc ?_ _)); exact BK206.out) hg (by simp [Value.ownBlock]))
                have n2_ := Aside0.mk (hb)
                have n3_ := Aside0.mk (ho)
                clear HO_3
                clear BK206
                clear HB
                have HO_3 := n0_
                have BK206 := n1_
                have HB := n2_
                have HO210 := n3_
                clear n0_ n1_ n2_ n3_
                clear ho hb hg hat
                obtain ⟨Ao12, co12, eo12⟩ := Kd.R_slice HO210.out
                (first | subst eo12 | (injection eo12 with f1_ f2_ f3_; have f4_ := f1_.symm; have f5_ := f3_.symm; clear f1_ f2_ f3_; subst f4_; subst f5_))
                refine hK.out _ _ ⟨(blk_cell BK206.out 0).trans rfl, (blk_cell BK206.out 1).trans rfl, (blk_cell BK206.out 2).trans rfl, ((HB.out.cell (World.block_lt_of_cell? w _ hw207_0)).trans hw207_0), ((HB.out.cell (World.block_lt_of_cell? w _ hw207_1)).trans hw207_1), ((HB.out.cell (World.block_lt_of_cell? w _ hw207_2)).trans hw207_2)⟩ (fun hHeld => ?_)
                clear hK K
                refine norm_ (a' := ?_) ?_ ?_
                rotate_left
                · show Act.put _ (some 25) _ = _
                  simp only [Act.put, List.setIfInBounds_toArray, List.set_cons_zero, List.set_cons_succ, i64_w, i32_w]
                  rfl
                refine pure_ (i := 8) (N := some 26) (v := ?_) (a' := ?_) #[true, true, true, true, true, true, true, true, true, false] rfl rfl (any_of HT_.out (by kernel_rfl)) (fun _ _ _ h => h) (Or.inl ⟨by rfl, ?_⟩) ?_ ?_
                rotate_left
                · intro w'
                  go_simp
                  with_reducible rfl
                rotate_left
                · simp only [Act.put, List.setIfInBounds_toArray, List.set_cons_zero, List.set_cons_succ, i64_w, i32_w]
                  rfl
                refine last_ (i := 9) (N := none) #[true, true, true, true, true, true, true, true, true, true] rfl rfl (one_of HT_.out (by kernel_rfl)) (by decide) (fun K hK => ?_)
                have hs13 : w11.cell? ⟨gb206, 1, none⟩ = some (.slice none 0 0) := (blk_cell BK206.out 1).trans rfl
                have hfs13 := blk_frozen BK206.out 1
                refine skip_ (w1 := ?_) (by rfl) rfl ?_ ?_
                rotate_left
                · go_simp
                  rfl
                refine hK.out _ _ ?_
                clear hK K
                refine done_ (done_of HT_.out (by kernel_rfl)) ?_
                try go_wp2
                have n0_ : Aside0 (Kd.S k36 36 (w11.setCell ⟨gb206, 1, none⟩ (.slice Ao12 y208.length co12)) w.heap.size (fun k_ => some k_ ≠ (.slice Ao12 y208.length co12 : Value).ownBlock ∧ k_ ≠ gb206) u3 x3_1) := ⟨by (with_reducible repeat (first | apply Kd.S_alloc | apply Kd.S_drewN | apply Kd.S_drew)); exact Kd.S_mono (Kd.S_far (p := ⟨gb206, 1, none⟩) (Kd.S_mono HO_3.out (fun k_ hk => (⟨hk, hk.1⟩ : _ ∧ k_ ≠ gb206))) (fun _ hk => hk.2) (.slice Ao12 y208.length co12)) (fun _ hk => ⟨hk.1.2, hk.1.1⟩)⟩
                have n1_ : Aside0 (Kd.R k31 31 (w11.setCell ⟨gb206, 1, none⟩ (.slice Ao12 y208.length co12)) w.heap.size (fun _ => True) (.slice Ao12 y208.length co12) y208) := ⟨by (with_reducible repeat (first | apply Kd.R_alloc | apply Kd.R_drewN | apply Kd.R_drew)); exact Kd.R_mono (Kd.R_far (p := ⟨gb206, 1, none⟩) (Kd.R_types HO210.out BK206.out (by decide)) (fun _ hk => hk.2) (.slice Ao12 y208.length co12)) (fun _ hk => trivial)⟩
                have n2_ : Aside0 ((w11.setCell ⟨gb206, 1, none⟩ (.slice Ao12 y208.length co12)).heap[gb206]? = some (.cells #[.bool ((rd_T36 l0 x4_1).f0), .slice Ao12 y208.length co12, .slice none 0 0] 36 (0, 0))) := ⟨by (with_reducible repeat (first | refine blk_drewN ?_ _ | refine blk_drew ?_ | refine blk_alloc ?_ _)); refine blk_put (cs := #[.bool ((rd_T36 l0 x4_1).f0), .slice none 0 0, .slice none 0 0]) ?_ 1 _ rfl; (with_reducible repeat (first | refine blk_drewN ?_ _ | refine blk_drew ?_ | refine blk_alloc ?_ _)); exact BK206.out⟩
                have n3_ : Aside0 (Below w.heap.size w (w11.setCell ⟨gb206, 1, none⟩ (.slice Ao12 y208.length co12))) := ⟨by repeat (first | (with_reducible first | exact HB.out | apply below_alloc | apply pw_below_drewN | apply below_drew1 | refine below_set ?_ GE206.out) | exact HB.out)⟩
                (try clear HO_3)
                (try clear HO210)
                (try clear BK206)
                (try clear HB)
                generalize (w11.setCell ⟨gb206, 1, none⟩ (.slice Ao12 y208.length co12)) = w14 at n0_ n1_ n2_ n3_ ⊢
                have HO_3 := n0_
                have HO210 := n1_
                have BK206 := n2_
                have HB := n3_
                clear n0_ n1_ n2_ n3_
                have n0_ := Aside0.mk (Kd.S_drew HO_3.out)
                have n1_ := Aside0.mk (Kd.R_drew HO210.out)
                have n2_ := Aside0.mk (blk_drew BK206.out)
                have n3_ := Aside0.mk (below_drew1 HB.out)
                clear HO_3
                clear HO210
                clear BK206
                clear HB
                have HO_3 := n0_
                have HO210 := n1_
                have BK206 := n2_
                have HB := n3_
                clear n0_ n1_ n2_ n3_
                have p211 : 0 ≤ (x4_1 : Int) := of_decide_eq_true (by first | (with_reducible assumption) | assumption)
                have q211 : x4_1 < (l0.length : Int) := of_decide_eq_true (by first | (with_reducible assumption) | assumption)
                obtain ⟨ad211, A211_1, c211_1, A211_2, c211_2, e211, hx211_0, hx211_1, hx211_2, hl211_1, hi211_1, hl211_2, hi211_2⟩ := at_T36 HR0.out x4_1 p211 q211
                have hw211_2 := hx211_2
                have hw211_1 := hx211_1
                have hw211_0 := hx211_0
                obtain rfl : ad205 = ad211 := (by injection e211)
                replace hx211_0 := (HB.out.cell (World.block_lt_of_cell? w _ hx211_0)).trans hx211_0
                replace hx211_1 := (HB.out.cell (World.block_lt_of_cell? w _ hx211_1)).trans hx211_1
                replace hx211_2 := (HB.out.cell (World.block_lt_of_cell? w _ hx211_2)).trans hx211_2
                have HR211_1 := Aside0.mk hi211_1
                have HC211_1 := Aside0.mk hl211_1
                clear hi211_1 hl211_1
                have HR211_2 := Aside0.mk hi211_2
                have HC211_2 := Aside0.mk hl211_2
                clear hi211_2 hl211_2
                replace p211 := eq_true p211
                replace q211 := eq_true q211
                refine start_ (n := 10) (S := fun w' => w'.cell? ⟨gb206, 0, none⟩ = some (.bool ((rd_T36 l0 x4_1).f0)) ∧ w'.cell? ⟨gb206, 1, none⟩ = some (.slice Ao12 y208.length co12) ∧ w'.cell? ⟨gb206, 2, none⟩ = some (.slice none 0 0) ∧ w'.cell? (ad205.add ((x4_1).toNat * 3)) = some (.bool ((rd_T36 l0 x4_1).f0)) ∧ w'.cell? ⟨(ad205.add ((x4_1).toNat * 3)).block, (ad205.add ((x4_1).toNat * 3)).off + 1, none⟩ = some (.slice A211_1 ((rd_T36 l0 x4_1).f1).length c211_1) ∧ w'.cell? ⟨(ad205.add ((x4_1).toNat * 3)).block, (ad205.add ((x4_1).toNat * 3)).off + 2, none⟩ = some (.slice A211_2 ((rd_T36 l0 x4_1).f2).length c211_2)) (ds := [9]) #[false, false, false, false, false, false, false, false, false, false] (by kernel_rfl) rfl rfl ⟨(blk_cell BK206.out 0).trans rfl, (blk_cell BK206.out 1).trans rfl, (blk_cell BK206.out 2).trans rfl, ((HB.out.cell (World.block_lt_of_cell? w _ hw211_0)).trans hw211_0), ((HB.out.cell (World.block_lt_of_cell? w _ hw211_1)).trans hw211_1), ((HB.out.cell (World.block_lt_of_cell? w _ hw211_2)).trans hw211_2)⟩ (fun hHeld => ?_); refine with_tabW berylref17_Copy.tab7 berylref17_Copy.bits7 (fun HT_ HW_ => ?_)
                generalize w14.drew = w15 at HO_3 HO210 BK206 HB HR211_1 HR211_2 hx211_0 hx211_1 hx211_2 hHeld ⊢
                refine pure_ (i := 0) (N := some 27) (v := ?_) (a' := ?_) #[true, false, false, false, false, false, false, false, false, false] rfl rfl (any_of HT_.out (by kernel_rfl)) (fun _ _ _ h => h) (Or.inl ⟨by rfl, ?_⟩) ?_ ?_
                rotate_left
                · intro w'
                  go_simp
                  with_reducible rfl
                rotate_left
                · simp only [Act.put, List.setIfInBounds_toArray, List.set_cons_zero, List.set_cons_succ, i64_w, i32_w]
                  rfl
                refine pure_ (i := 2) (N := some 29) (v := ?_) (a' := ?_) #[true, false, true, false, false, false, false, false, false, false] rfl rfl (any_of HT_.out (by kernel_rfl)) (fun _ _ _ h => h) (Or.inl ⟨by rfl, ?_⟩) ?_ ?_
                rotate_left
                · intro w'
                  go_simp
                  with_reducible rfl
                rotate_left
                · simp only [Act.put, List.setIfInBounds_toArray, List.set_cons_zero, List.set_cons_succ, i64_w, i32_w]
                  rfl
                refine pure_ (i := 3) (N := some 30) (v := ?_) (a' := ?_) #[true, false, true, true, false, false, false, false, false, false] rfl rfl (any_of HT_.out (by kernel_rfl)) (fun _ _ _ h => h) (Or.inl ⟨by rfl, ?_⟩) ?_ ?_
                rotate_left
                · intro w'
                  go_simp
                  with_reducible rfl
                rotate_left
                · simp only [Act.put, List.setIfInBounds_toArray, List.set_cons_zero, List.set_cons_succ, i64_w, i32_w]
                  rfl
                refine pure_ (i := 4) (N := some 31) (v := ?_) (a' := ?_) #[true, false, true, true, true, false, false, false, false, false] rfl rfl (any_of HT_.out (by kernel_rfl)) (fun _ _ _ h => h) (Or.inl ⟨by rfl, ?_⟩) ?_ ?_
                rotate_left
                · intro w'
                  go_simp
                  with_reducible rfl
                rotate_left
                · simp only [Act.put, List.setIfInBounds_toArray, List.set_cons_zero, List.set_cons_succ, i64_w, i32_w]
                  rfl
                refine pure_ (i := 5) (N := some 32) (v := ?_) (a' := ?_) #[true, false, true, true, true, true, false, false, false, false] rfl rfl (any_of HT_.out (by kernel_rfl)) (fun _ _ _ h => h) (Or.inl ⟨by rfl, ?_⟩) ?_ ?_
                rotate_left
                · intro w'
                  go_simp
                  with_reducible rfl
                rotate_left
                · simp only [Act.put, List.setIfInBounds_toArray, List.set_cons_zero, List.set_cons_succ, i64_w, i32_w]
                  rfl
                refine take_ (i := 1) (N := some 28) (v := ?_) (a' := ?_) #[true, true, true, true, true, true, false, false, false, false] rfl rfl (take_ofW HT_.out HW_.out (by kernel_rfl)) (fun _ _ _ h => h) (Or.inl ⟨by rfl, ?_⟩) hHeld ?_ ?_
                rotate_left
                · rintro w' ⟨s0, s1, s2, s3, s4, s5⟩
                  go_simp
                  with_reducible rfl
                rotate_left
                · simp only [Act.put, List.setIfInBounds_toArray, List.set_cons_zero, List.set_cons_succ, i64_w, i32_w]
                  rfl
                refine take_ (i := 6) (N := some 33) (v := ?_) (a' := ?_) #[true, true, true, true, true, true, true, false, false, false] rfl rfl (take_ofW HT_.out HW_.out (by kernel_rfl)) (fun _ _ _ h => h) (Or.inl ⟨by rfl, ?_⟩) hHeld ?_ ?_
                rotate_left
                · rintro w' ⟨s0, s1, s2, s3, s4, s5⟩
                  go_simp
                  with_reducible rfl
                rotate_left
                · simp only [Act.put, List.setIfInBounds_toArray, List.set_cons_zero, List.set_cons_succ, i64_w, i32_w]
                  rfl
                refine one_ (i := 7) (N := some 34) #[true, true, true, true, true, true, true, true, false, false] rfl rfl (one_of HT_.out (by kernel_rfl)) (by decide) (fun K hK => ?_)
                refine Kd.R_append_rows_step k31 (w0 := w) w.heap.size (by rfl) (.tmp 28) (.tmp 33) 34 31 (.agg #[(.int .i64 0), (.int .i64 0), (.int .i64 0)]) 24 rfl Try.underlying34 info31 rfl (by decide) (by omega) (.slice none 0 0) ([] : List (S31)) ((rd_T36 l0 x4_1).f2) _ _ _ (fun k_ => some k_ ≠ (.slice Ao12 y208.length co12 : Value).ownBlock) (fun _ => False) rfl rfl ?aO ?aR (fun _ _ h => h) (fun _ h => h.elim) ?aF ?aB ?aS ?aL ?_
                (case aR => repeat (first | exact (Kd.C_below HR211_2.out HB.out) | (with_reducible refine Kd.C_alloc ?_ _) | (with_reducible refine Kd.C_drewN ?_ _) | (with_reducible refine Kd.C_drew ?_)))
                (case aB => exact (by repeat (first | (with_reducible first | exact HB.out | apply below_alloc | apply pw_below_drewN | apply below_drew1 | refine below_set ?_ GE206.out) | exact HB.out)))
                (case aF => exact (fun k_ hk => Kd.fresh' (Kd.R_lt (by (with_reducible repeat (first | apply Kd.R_alloc | apply Kd.R_drewN | apply Kd.R_drew)); exact HO210.out)) k_ hk))
                (case aO => exact ((Kd.R_nil _ _ _ _ (fun k_ => some k_ ≠ (.slice Ao12 y208.length co12 : Value).ownBlock))))
                (case aS => exact (below_size (by repeat (first | (with_reducible first | exact HB.out | apply below_alloc | apply pw_below_drewN | apply below_drew1 | refine below_set ?_ GE206.out) | exact HB.out))))
                (case aL => have := LMc5.out; omega)
                intro v213 w16 ho hb hg hat
                rw [← Ny212.out] at ho
                have n0_ := Aside0.mk (Kd.S_after (Kd.S_apart_nil (by (with_reducible repeat (first | apply Kd.S_alloc | apply Kd.S_drewN | apply Kd.S_drew)); exact HO_3.out)) hg hat)
                have n1_ := Aside0.mk (blk_grown (g := gb206) (o := .cells #[.bool ((rd_T36 l0 x4_1).f0), .slice Ao12 y208.length co12, .slice none 0 0] 36 (0, 0)) (by (with_reducible repeat (first | refine blk_drewN ?_ _ | refine blk_drew ?_ | refine blk_alloc ?_ _)); exact BK206.out) hg (by simp [Value.ownBlock]))
                have n2_ := Aside0.mk (Kd.R_after (Kd.R_apart_nil (by (with_reducible repeat (first | apply Kd.R_alloc | apply Kd.R_drewN | apply Kd.R_drew)); exact HO210.out)) hg hat)
                have n3_ := Aside0.mk (hb)
                have n4_ := Aside0.mk (ho)
                clear HO_3
                clear BK206
                clear HO210
                clear HB
                have HO_3 := n0_
                have BK206 := n1_
                have HO210 := n2_
                have HB := n3_
                have HO214 := n4_
                clear n0_ n1_ n2_ n3_ n4_
                clear ho hb hg hat
                obtain ⟨Ao17, co17, eo17⟩ := Kd.R_slice HO214.out
                (first | subst eo17 | (injection eo17 with f1_ f2_ f3_; have f4_ := f1_.symm; have f5_ := f3_.symm; clear f1_ f2_ f3_; subst f4_; subst f5_))
                refine hK.out _ _ ⟨(blk_cell BK206.out 0).trans rfl, (blk_cell BK206.out 1).trans rfl, (blk_cell BK206.out 2).trans rfl, ((HB.out.cell (World.block_lt_of_cell? w _ hw211_0)).trans hw211_0), ((HB.out.cell (World.block_lt_of_cell? w _ hw211_1)).trans hw211_1), ((HB.out.cell (World.block_lt_of_cell? w _ hw211_2)).trans hw211_2)⟩ (fun hHeld => ?_)
                clear hK K
                refine norm_ (a' := ?_) ?_ ?_
                rotate_left
                · show Act.put _ (some 34) _ = _
                  simp only [Act.put, List.setIfInBounds_toArray, List.set_cons_zero, List.set_cons_succ, i64_w, i32_w]
                  rfl
                refine pure_ (i := 8) (N := some 35) (v := ?_) (a' := ?_) #[true, true, true, true, true, true, true, true, true, false] rfl rfl (any_of HT_.out (by kernel_rfl)) (fun _ _ _ h => h) (Or.inl ⟨by rfl, ?_⟩) ?_ ?_
                rotate_left
                · intro w'
                  go_simp
                  with_reducible rfl
                rotate_left
                · simp only [Act.put, List.setIfInBounds_toArray, List.set_cons_zero, List.set_cons_succ, i64_w, i32_w]
                  rfl
                refine last_ (i := 9) (N := none) #[true, true, true, true, true, true, true, true, true, true] rfl rfl (one_of HT_.out (by kernel_rfl)) (by decide) (fun K hK => ?_)
                have hs18 : w16.cell? ⟨gb206, 2, none⟩ = some (.slice none 0 0) := (blk_cell BK206.out 2).trans rfl
                have hfs18 := blk_frozen BK206.out 2
                refine skip_ (w1 := ?_) (by rfl) rfl ?_ ?_
                rotate_left
                · go_simp
                  rfl
                refine hK.out _ _ ?_
                clear hK K
                refine done_ (done_of HT_.out (by kernel_rfl)) ?_
                have n0_ : Aside0 (Kd.S k36 36 (w16.setCell ⟨gb206, 2, none⟩ (.slice Ao17 y212.length co17)) w.heap.size (fun k_ => some k_ ≠ (.slice Ao12 y208.length co12 : Value).ownBlock ∧ some k_ ≠ (.slice Ao17 y212.length co17 : Value).ownBlock ∧ k_ ≠ gb206) u3 x3_1) := ⟨by (with_reducible repeat (first | apply Kd.S_alloc | apply Kd.S_drewN | apply Kd.S_drew)); exact Kd.S_mono (Kd.S_far (p := ⟨gb206, 2, none⟩) (Kd.S_mono HO_3.out (fun k_ hk => (⟨hk, hk.1.2⟩ : _ ∧ k_ ≠ gb206))) (fun _ hk => hk.2) (.slice Ao17 y212.length co17)) (fun _ hk => ⟨hk.1.1.1, ⟨hk.1.2, hk.1.1.2⟩⟩)⟩
                have n1_ : Aside0 (Kd.R k31 31 (w16.setCell ⟨gb206, 2, none⟩ (.slice Ao17 y212.length co17)) w.heap.size (fun k_ => some k_ ≠ (.slice Ao17 y212.length co17 : Value).ownBlock) (.slice Ao12 y208.length co12) y208) := ⟨by (with_reducible repeat (first | apply Kd.R_alloc | apply Kd.R_drewN | apply Kd.R_drew)); exact Kd.R_mono (Kd.R_far (p := ⟨gb206, 2, none⟩) (Kd.R_types HO210.out BK206.out (by decide)) (fun _ hk => hk.2) (.slice Ao17 y212.length co17)) (fun _ hk => hk.1.2)⟩
                have n2_ : Aside0 (Kd.R k31 31 (w16.setCell ⟨gb206, 2, none⟩ (.slice Ao17 y212.length co17)) w.heap.size (fun k_ => some k_ ≠ (.slice Ao12 y208.length co12 : Value).ownBlock) (.slice Ao17 y212.length co17) y212) := ⟨by (with_reducible repeat (first | apply Kd.R_alloc | apply Kd.R_drewN | apply Kd.R_drew)); exact Kd.R_mono (Kd.R_far (p := ⟨gb206, 2, none⟩) (Kd.R_types HO214.out BK206.out (by decide)) (fun _ hk => hk.2) (.slice Ao17 y212.length co17)) (fun _ hk => hk.1)⟩
                have n3_ : Aside0 ((w16.setCell ⟨gb206, 2, none⟩ (.slice Ao17 y212.length co17)).heap[gb206]? = some (.cells #[.bool ((rd_T36 l0 x4_1).f0), .slice Ao12 y208.length co12, .slice Ao17 y212.length co17] 36 (0, 0))) := ⟨by (with_reducible repeat (first | refine blk_drewN ?_ _ | refine blk_drew ?_ | refine blk_alloc ?_ _)); refine blk_put (cs := #[.bool ((rd_T36 l0 x4_1).f0), .slice Ao12 y208.length co12, .slice none 0 0]) ?_ 2 _ rfl; (with_reducible repeat (first | refine blk_drewN ?_ _ | refine blk_drew ?_ | refine blk_alloc ?_ _)); exact BK206.out⟩
                have n4_ : Aside0 (Below w.heap.size w (w16.setCell ⟨gb206, 2, none⟩ (.slice Ao17 y212.length co17))) := ⟨by repeat (first | (with_reducible first | exact HB.out | apply below_alloc | apply pw_below_drewN | apply below_drew1 | refine below_set ?_ GE206.out) | exact HB.out)⟩
                (try clear HO_3)
                (try clear HO210)
                (try clear HO214)
                (try clear BK206)
                (try clear HB)
                generalize (w16.setCell ⟨gb206, 2, none⟩ (.slice Ao17 y212.length co17)) = w19 at n0_ n1_ n2_ n3_ n4_ ⊢
                have HO_3 := n0_
                have HO210 := n1_
                have HO214 := n2_
                have BK206 := n3_
                have HB := n4_
                clear n0_ n1_ n2_ n3_ n4_
                have hcz20_0 : w19.cell? ⟨gb206, 0, none⟩ = some (.bool ((rd_T36 l0 x4_1).f0)) := (blk_cell BK206.out 0).trans rfl
                have hcz20_1 : w19.cell? ⟨gb206, 1, none⟩ = some (.slice Ao12 y208.length co12) := (blk_cell BK206.out 1).trans rfl
                have hcz20_2 : w19.cell? ⟨gb206, 2, none⟩ = some (.slice Ao17 y212.length co17) := (blk_cell BK206.out 2).trans rfl
                have hfz20_0 := blk_frozen BK206.out 0
                have hfz20_1 := blk_frozen BK206.out 1
                have hfz20_2 := blk_frozen BK206.out 2
                try go_wp2_with (first | ((with_reducible refine gate_builtin (b := .append) (xs := #[.tmp 36, .tmp 38]) rfl ?_); at_builtin; refine Kd.S_append k36 (w0 := w) w.heap.size rfl (.tmp 36) (.tmp 38) 22 36 (.agg #[(.bool false), (.slice none 0 0), (.slice none 0 0)]) 56 rfl Try.underlying22 info36 rfl (by decide) (by omega) u3 x3_1 (⟨(rd_T36 l0 x4_1).f0, y208, y212⟩ : S36) [.bool ((rd_T36 l0 x4_1).f0), .slice Ao12 y208.length co12, .slice Ao17 y212.length co17] (fun k_ => k_ ≠ gb206) (fun k_ => some k_ = (.slice Ao12 y208.length co12 : Value).ownBlock ∨ some k_ = (.slice Ao17 y212.length co17 : Value).ownBlock) rfl rfl ?aP (fun k_ hk_ => hk_.elim (fun h_ => ((Kd.R_mono (ok' := fun k_ => ((fun k_ => k_ ≠ gb206)) k_ ∧ some k_ ≠ (u3 : Value).ownBlock) (Kd.R_types (Kd.R_apart' (HO210.out) (Kd.S_typed HO_3.out) (by decide)) BK206.out (by decide)) (fun k_ hk => ⟨hk.2, hk.1.2⟩))).1 k_ h_.symm) (fun h_ => ((Kd.R_mono (ok' := fun k_ => ((fun k_ => k_ ≠ gb206)) k_ ∧ some k_ ≠ (u3 : Value).ownBlock) (Kd.R_types (Kd.R_apart' (HO214.out) (Kd.S_typed HO_3.out) (by decide)) BK206.out (by decide)) (fun k_ hk => ⟨hk.2, hk.1.2⟩))).1 k_ h_.symm)) ?aF ?aO ?aB ?aS ?aL ?_; (case aP => exact k36_mkM _ _ _ (⟨(rd_T36 l0 x4_1).f0, y208, y212⟩ : S36) (Kd.R_mono (Kd.R_tight rfl (Kd.R_mono (ok' := fun k_ => ((fun k_ => k_ ≠ gb206)) k_ ∧ some k_ ≠ (u3 : Value).ownBlock) (Kd.R_types (Kd.R_apart' (HO210.out) (Kd.S_typed HO_3.out) (by decide)) BK206.out (by decide)) (fun k_ hk => ⟨hk.2, hk.1.2⟩))) (fun _ h_ => Or.inl h_)) (Kd.R_mono (Kd.R_tight rfl (Kd.R_mono (ok' := fun k_ => ((fun k_ => k_ ≠ gb206)) k_ ∧ some k_ ≠ (u3 : Value).ownBlock) (Kd.R_types (Kd.R_apart' (HO214.out) (Kd.S_typed HO_3.out) (by decide)) BK206.out (by decide)) (fun k_ hk => ⟨hk.2, hk.1.2⟩))) (fun _ h_ => Or.inr (h_)))); (case aB => exact (by repeat (first | (with_reducible first | exact HB.out | apply below_alloc | apply pw_below_drewN | apply below_drew1 | refine below_set ?_ GE206.out) | exact HB.out))); (case aF => exact (fun k_ hk => Kd.freshB (g := gb206) (o := .cells #[.bool ((rd_T36 l0 x4_1).f0), .slice Ao12 y208.length co12, .slice Ao17 y212.length co17] 36 (0, 0)) (by (with_reducible repeat (first | refine blk_drewN ?_ _ | refine blk_drew ?_ | refine blk_alloc ?_ _)); exact BK206.out) k_ hk)); (case aO => exact (by (with_reducible repeat (first | apply Kd.S_alloc | apply Kd.S_drewN | apply Kd.S_drew)); exact Kd.S_mono HO_3.out (fun k_ hk => ⟨hk.2.2, fun e_ => e_.elim (fun h_ => hk.1 h_) (fun h_ => hk.2.1 h_)⟩))); (case aS => exact (below_size (by repeat (first | (with_reducible first | exact HB.out | apply below_alloc | apply pw_below_drewN | apply below_drew1 | refine below_set ?_ GE206.out) | exact HB.out)))); (case aL => have := LMc6.out; omega); intro v216 w21 ho hb hg hat; rw [← Ny215.out] at ho; have n0_ := Aside0.mk (blk_grown (g := gb206) (o := .cells #[.bool ((rd_T36 l0 x4_1).f0), .slice Ao12 y208.length co12, .slice Ao17 y212.length co17] 36 (0, 0)) (by (with_reducible repeat (first | refine blk_drewN ?_ _ | refine blk_drew ?_ | refine blk_alloc ?_ _)); exact BK206.out) hg (Kd.S_away HO_3.out (fun _ hk => hk.2.2))); have n1_ := Aside0.mk (hb); have n2_ := Aside0.mk (ho); clear BK206; clear HB; clear HO_3; clear HO210; clear HO214; have BK206 := n0_; have HB := n1_; have HO217 := n2_; clear n0_ n1_ n2_; clear ho hb hg hat))
                go_roundg k1
                case measure => have := HK1.out; omega
                case rel => exact ⟨(y215), (wrap64 (x4_1 + 1)), (by first | rfl | (simp; done) | (simp [*]; done)), H', ⟨by have := HK1.out; omega⟩, ⟨by (with_reducible repeat (first | apply Kd.S_alloc | apply Kd.S_drewN | apply Kd.S_drew)); exact Kd.S_mono HO217.out (fun _ hk => trivial)⟩, ⟨by repeat (first | (with_reducible first | exact HB.out | apply below_alloc | apply pw_below_drewN | apply below_drew1 | refine below_set ?_ GE206.out) | exact HB.out)⟩⟩
              · rw [if_neg c6] at H
                exact absurd H (by simp)
            · rw [if_neg c5] at H
              exact absurd H (by simp)
          · rw [if_neg c4] at H
            exact absurd H (by simp)
        · rw [if_neg c3] at H
          exact absurd H (by simp)
      · rw [if_neg c2] at H
        have c2b0 : decide (x4_1 < (l0.length : Int)) = false := decide_eq_false c2
        clear c2
        obtain rfl := Option.some.inj H
        go_wp2
        go_ret
        exact ⟨_, by first | rfl | (simp [errW_none, errW_some] <;> rfl) | (simp [*, errW_none, errW_some] <;> rfl), by (with_reducible repeat (first | apply Kd.S_alloc | apply Kd.S_drewN | apply Kd.S_drew)); exact HO_3.out, by repeat (first | (with_reducible first | exact HB.out | apply below_alloc | apply pw_below_drewN | apply below_drew1) | exact HB.out)⟩
end Go.Proofs.Ytjnceoohlcchnaa.Print

-- written by wip/dev/pprint.py (over the kit's printer), laid by relay.py
namespace Go.Proofs.Ytjnceoohlcchnaa.Print
open Go.RowKit Go.Proofs.YtjnceoohlcchnaaW.PrintWords Go.Proofs.YtjnceoohlcchnaaW.PrintLast Go.Proofs.YtjnceoohlcchnaaW.PrintMore
attribute [local go_sem] max2_int min2_int max_two min_two max_three min_three max_four min_four   -- for this text's walks alone
set_option linter.unusedVariables false
set_option linter.unusedSimpArgs false






/-! ### berylref17_without: function 77 -/
def berylref17_without.l0 : Nat → List (S31) → Int → List (S31) → Int → Option ((List (S31)))
  | 0, _, _, _, _ => none
  | k + 1, x0, x1, x5, x6 => if x6 < (x0.length : Int) then (if 0 ≤ x6 then (if ((rd_T31 x0 x6).f0) = x1 then (berylref17_without.l0 k x0 x1 x5 (wrap64 (x6 + 1))) else (if x5.length < 5864062014805 then (berylref17_without.l0 k x0 x1 (x5 ++ [(⟨(rd_T31 x0 x6).f0, (rd_T31 x0 x6).f1, (rd_T31 x0 x6).f2⟩ : S31)]) (wrap64 (x6 + 1))) else (none))) else (none)) else (some x5)
def berylref17_without.f (k : Nat) (l0 : List (S31)) (a1 : Int) : Option ((List (S31))) := berylref17_without.l0 k l0 a1 ([] : List (S31)) 0
theorem berylref17_without.mono_l : ∀ k, (∀ y0 y1 y2 y3, LeO (berylref17_without.l0 k y0 y1 y2 y3) (berylref17_without.l0 (k + 1) y0 y1 y2 y3))
  | 0 => fun _ _ _ _ r h => by simp [berylref17_without.l0] at h
  | k + 1 => by
    have ih0 := berylref17_without.mono_l k
    · intro y0 y1 y2 y3
      unfold berylref17_without.l0
      repeat' first
      | (with_reducible exact ih0 _ _ _ _)
      | (with_reducible exact LeO.refl _)
      | (with_reducible exact LeO.none _)
      | (with_reducible refine LeO.ite ?_ ?_)
      | (with_reducible refine LeO.bind ?_ (fun _ => ?_))
      | exact ih0 _ _ _ _
      | exact LeO.none _
      | refine LeO.ite ?_ ?_
      | refine LeO.bind ?_ (fun _ => ?_)
theorem berylref17_without.mono : ∀ a0 a1 k, LeO (berylref17_without.f k a0 a1) (berylref17_without.f (k + 1) a0 a1) := by
  intro a0 a1 k
  have ih0 := berylref17_without.mono_l k
  unfold berylref17_without.f
  repeat' first
      | (with_reducible exact ih0 _ _ _ _)
      | (with_reducible exact LeO.refl _)
      | (with_reducible exact LeO.none _)
      | (with_reducible refine LeO.ite ?_ ?_)
      | (with_reducible refine LeO.bind ?_ (fun _ => ?_))
      | exact ih0 _ _ _ _
      | exact LeO.none _
      | refine LeO.ite ?_ ?_
      | refine LeO.bind ?_ (fun _ => ?_)
set_option maxHeartbeats 8000000 in
set_option maxRecDepth 100000 in
theorem berylref17_without.calls (k : Nat) (A0 : Option Addr) (c0 : Nat) (l0 : List (S31)) (a1 : Int) (r : List (S31)) (w : World) (hr0 : Kd.C k31 w A0 l0.length l0) (hc0 : l0.length ≤ c0) (h : berylref17_without.f k l0 a1 = some r) :
    Calls Try.prog 77 #[.slice A0 l0.length c0, .int .i64 a1] w fun e w' => ∃ v0_ : Value, e = .returned (v0_) ∧ Kd.R k31 31 w' w.heap.size (fun _ => True) v0_ r ∧ Below w.heap.size w w' := by
  have hu31 := Try.underlying31
  have HR0 := Aside0.mk hr0
  have HC0 := Aside0.mk hc0
  clear hr0 hc0
  have HB := Aside0.mk (Below.refl w.heap.size w)
  have H : (berylref17_without.l0 k l0 a1 ([] : List (S31)) 0) = some r := h
  clear h
  have H' := Aside0.mk H
  clear H
  go_enter Try.func77, Try.ntmps77
  go_wp2
  go_loopg [5, 6] k (fun kq v5 v6 w' => ∃ (x5_1 : List (S31)) (x6_1 : Int), v6 = .int .i64 x6_1 ∧ Aside0 (berylref17_without.l0 kq l0 a1 x5_1 x6_1 = some r) ∧ Aside0 (kq ≤ k) ∧ Aside0 (Kd.R k31 31 w' w.heap.size (fun _ => True) v5 x5_1) ∧ Aside0 (Below w.heap.size w w'))
  case atStart => exact ⟨(([] : List (S31))), (0), (by first | rfl | (simp; done) | (simp [*]; done)), H', ⟨Nat.le_refl _⟩, ⟨by first | exact Kd.R_nil _ _ _ _ _ | exact Kd.N_nil _ _ _ _ _ | exact Kd.V_nil _ _ _ _ _ | exact Kd.Q_nil _ _ _ _ _ | exact Kd.S_nil _ _ _ _ _⟩, ⟨by repeat (first | (with_reducible first | exact HB.out | apply below_alloc | apply pw_below_drewN | apply below_drew1) | exact HB.out)⟩⟩
  case round =>
    clear H'
    try clear p2
    obtain ⟨x5_1, x6_1, rfl, HA, HK1, HO_5, HB⟩ := hrel
    cases gk with
    | zero => exact absurd HA.out (by simp [berylref17_without.l0])
    | succ k1 =>
      have H := HA.out
      clear HA
      simp only [berylref17_without.l0] at H
      by_cases c3 : x6_1 < (l0.length : Int)
      · rw [if_pos c3] at H
        have c3b0 : decide (x6_1 < (l0.length : Int)) = true := decide_eq_true c3
        clear c3
        by_cases c4 : 0 ≤ x6_1
        · rw [if_pos c4] at H
          have c4b0 : decide (0 ≤ x6_1) = true := decide_eq_true c4
          clear c4
          by_cases c5 : ((rd_T31 l0 x6_1).f0) = a1
          · rw [if_pos c5] at H
            have c5b0 : (((rd_T31 l0 x6_1).f0) == a1) = true := beq_iff_eq.mpr c5
            have c5b1 : (((rd_T31 l0 x6_1).f0) != a1) = false := bne_eq_false_iff_eq.mpr c5
            clear c5
            have H' := Aside0.mk H
            clear H
            have p269 : 0 ≤ (x6_1 : Int) := of_decide_eq_true (by first | (with_reducible assumption) | assumption)
            have q269 : x6_1 < (l0.length : Int) := of_decide_eq_true (by first | (with_reducible assumption) | assumption)
            obtain ⟨ad269, e269, hx269_0, hx269_1, hx269_2⟩ := at_T31 HR0.out x6_1 p269 q269
            cases e269
            replace hx269_0 := (HB.out.cell (World.block_lt_of_cell? w _ hx269_0)).trans hx269_0
            replace hx269_1 := (HB.out.cell (World.block_lt_of_cell? w _ hx269_1)).trans hx269_1
            replace hx269_2 := (HB.out.cell (World.block_lt_of_cell? w _ hx269_2)).trans hx269_2
            replace p269 := eq_true p269
            replace q269 := eq_true q269
            go_wp2
            go_roundg k1
            case measure => have := HK1.out; omega
            case rel => exact ⟨(x5_1), (wrap64 (x6_1 + 1)), (by first | rfl | (simp; done) | (simp [*]; done)), H', ⟨by have := HK1.out; omega⟩, ⟨by (with_reducible repeat (first | apply Kd.R_alloc | apply Kd.R_drewN | apply Kd.R_drew)); exact HO_5.out⟩, ⟨by repeat (first | (with_reducible first | exact HB.out | apply below_alloc | apply pw_below_drewN | apply below_drew1) | exact HB.out)⟩⟩
          · rw [if_neg c5] at H
            have c5b0 : (((rd_T31 l0 x6_1).f0) == a1) = false := beq_eq_false_iff_ne.mpr c5
            have c5b1 : (((rd_T31 l0 x6_1).f0) != a1) = true := bne_iff_ne.mpr c5
            by_cases c6 : x5_1.length < 5864062014805
            · rw [if_pos c6] at H
              have LMc6 := Aside0.mk c6
              clear c6
              obtain ⟨y271, hy271⟩ : ∃ y_ : List (S31), y_ = (x5_1 ++ [(⟨(rd_T31 l0 x6_1).f0, (rd_T31 l0 x6_1).f1, (rd_T31 l0 x6_1).f2⟩ : S31)]) := ⟨_, rfl⟩
              replace H : (berylref17_without.l0 k1 l0 a1 y271 (wrap64 (x6_1 + 1))) = some r := by first | (rw [hy271]; with_reducible exact H) | (have H2_ := (Option.bind_some _ _).symm.trans H; rw [hy271]; with_reducible exact H2_) | (have H2_ := (Option.bind_some _ _).symm.trans H; with_reducible exact H2_) | with_reducible exact H | (rw [hy271]; exact H) | exact H
              have Ny271 := Aside0.mk hy271
              clear hy271
              have H' := Aside0.mk H
              clear H
              have p269 : 0 ≤ (x6_1 : Int) := of_decide_eq_true (by first | (with_reducible assumption) | assumption)
              have q269 : x6_1 < (l0.length : Int) := of_decide_eq_true (by first | (with_reducible assumption) | assumption)
              obtain ⟨ad269, e269, hx269_0, hx269_1, hx269_2⟩ := at_T31 HR0.out x6_1 p269 q269
              cases e269
              replace hx269_0 := (HB.out.cell (World.block_lt_of_cell? w _ hx269_0)).trans hx269_0
              replace hx269_1 := (HB.out.cell (World.block_lt_of_cell? w _ hx269_1)).trans hx269_1
              replace hx269_2 := (HB.out.cell (World.block_lt_of_cell? w _ hx269_2)).trans hx269_2
              replace p269 := eq_true p269
              replace q269 := eq_true q269
              have p270 : 0 ≤ (x6_1 : Int) := of_decide_eq_true (by first | (with_reducible assumption) | assumption)
              have q270 : x6_1 < (l0.length : Int) := of_decide_eq_true (by first | (with_reducible assumption) | assumption)
              obtain ⟨ad270, e270, hx270_0, hx270_1, hx270_2⟩ := at_T31 HR0.out x6_1 p270 q270
              obtain rfl : ad269 = ad270 := (by injection e270)
              replace hx270_0 := (HB.out.cell (World.block_lt_of_cell? w _ hx270_0)).trans hx270_0
              replace hx270_1 := (HB.out.cell (World.block_lt_of_cell? w _ hx270_1)).trans hx270_1
              replace hx270_2 := (HB.out.cell (World.block_lt_of_cell? w _ hx270_2)).trans hx270_2
              replace p270 := eq_true p270
              replace q270 := eq_true q270
              go_wp2_with (first | ((with_reducible refine gate_builtin (b := .append) (xs := #[.tmp 20, .tmp 25]) rfl ?_); at_builtin; refine Kd.R_append k31 (w0 := w) w.heap.size rfl (.tmp 20) (.tmp 25) 34 31 (.agg #[(.int .i64 0), (.int .i64 0), (.int .i64 0)]) 24 rfl Try.underlying34 info31 rfl (by decide) (by omega) u5 x5_1 (⟨(rd_T31 l0 x6_1).f0, (rd_T31 l0 x6_1).f1, (rd_T31 l0 x6_1).f2⟩ : S31) [.int .i64 ((rd_T31 l0 x6_1).f0), .int .i64 ((rd_T31 l0 x6_1).f1), .int .i64 ((rd_T31 l0 x6_1).f2)] (fun _ => True) (fun _ => False) rfl rfl ?aP (fun _ hk => hk.elim) ?aF ?aO ?aB ?aS ?aL ?_; (case aP => exact k31_mkM _ _ _ (⟨(rd_T31 l0 x6_1).f0, (rd_T31 l0 x6_1).f1, (rd_T31 l0 x6_1).f2⟩ : S31)); (case aB => exact (by repeat (first | (with_reducible first | exact HB.out | apply below_alloc | apply pw_below_drewN | apply below_drew1) | exact HB.out))); (case aF => exact (fun _ _ => trivial)); (case aO => exact (by (with_reducible repeat (first | apply Kd.R_alloc | apply Kd.R_drewN | apply Kd.R_drew)); exact HO_5.out)); (case aS => exact (below_size (by repeat (first | (with_reducible first | exact HB.out | apply below_alloc | apply pw_below_drewN | apply below_drew1) | exact HB.out)))); (case aL => have := LMc6.out; omega); intro v272 w7 ho hb hg hat; rw [← Ny271.out] at ho; have n0_ := Aside0.mk (hb); have n1_ := Aside0.mk (ho); clear HB; clear HO_5; have HB := n0_; have HO273 := n1_; clear n0_ n1_; clear ho hb hg hat))
              go_roundg k1
              case measure => have := HK1.out; omega
              case rel => exact ⟨(y271), (wrap64 (x6_1 + 1)), (by first | rfl | (simp; done) | (simp [*]; done)), H', ⟨by have := HK1.out; omega⟩, ⟨by (with_reducible repeat (first | apply Kd.R_alloc | apply Kd.R_drewN | apply Kd.R_drew)); exact HO273.out⟩, ⟨by repeat (first | (with_reducible first | exact HB.out | apply below_alloc | apply pw_below_drewN | apply below_drew1) | exact HB.out)⟩⟩
            · rw [if_neg c6] at H
              exact absurd H (by simp)
        · rw [if_neg c4] at H
          exact absurd H (by simp)
      · rw [if_neg c3] at H
        have c3b0 : decide (x6_1 < (l0.length : Int)) = false := decide_eq_false c3
        clear c3
        obtain rfl := Option.some.inj H
        go_wp2
        go_ret
        exact ⟨_, by first | rfl | (simp [errW_none, errW_some] <;> rfl) | (simp [*, errW_none, errW_some] <;> rfl), by (with_reducible repeat (first | apply Kd.R_alloc | apply Kd.R_drewN | apply Kd.R_drew)); exact HO_5.out, by repeat (first | (with_reducible first | exact HB.out | apply below_alloc | apply pw_below_drewN | apply below_drew1) | exact HB.out)⟩

-- NOT PRINTED: function 26 (berylref17_Move)
end Go.Proofs.Ytjnceoohlcchnaa.Print

/-! The reference: copies, lists with and without a hint, where something is, what was asked. -/
namespace Go.Proofs.Ytjnceoohlcchnaa.Print
open Go Go.RowKit Go.Deep Go.Proofs.YtjnceoohlcchnaaW.PrintWords Go.Proofs.YtjnceoohlcchnaaW.PrintLast Go.Proofs.YtjnceoohlcchnaaW.PrintMore

/-- a map of one's own -/
def OwnR (w : World) (base g cap : Nat) (l : List S36) : Prop := Kd.R k36 36 w base (fun _ => True) (.slice (some ⟨g, 0, none⟩) l.length cap) l
theorem ownr_of {w : World} {base : Nat} {v : Value} {l : List S36} (h : Kd.R k36 36 w base (fun _ => True) v l) (hl : 0 < l.length) : ∃ g cap, v = .slice (some ⟨g, 0, none⟩) l.length cap ∧ OwnR w base g cap l ∧ l.length ≤ cap ∧ base ≤ g ∧ g < w.heap.size := by
  obtain ⟨A, c, rfl, hc, hC⟩ := Kd.R_reads h
  obtain ⟨ad, rfl, _⟩ := hC.2.2 hl
  obtain ⟨g, rfl⟩ := Kd.R_head h
  exact ⟨g, c, rfl, h, hc, Kd.R_base h g (by simp [Value.ownBlock]), Kd.R_lt h g (by simp [Value.ownBlock])⟩
theorem OwnR.C {w : World} {base g cap : Nat} {l : List S36} (h : OwnR w base g cap l) : Kd.C k36 w (some ⟨g, 0, none⟩) l.length l := (Kd.R_reads' h).2.2
theorem OwnR.below {w w2 : World} {base g cap : Nat} {l : List S36} (h : OwnR w base g cap l) (hB : Below w.heap.size w w2) : OwnR w2 base g cap l := Kd.R_below h hB
theorem OwnR.cells {w : World} {base g cap : Nat} {l : List S36} (h : OwnR w base g cap l) {i : Nat} {x : S36} (hx : l[i]? = some x) :
    ∃ A1 c1 A2 c2, w.cell? ⟨g, i * 3, none⟩ = some (.bool x.f0) ∧ w.cell? ⟨g, i * 3 + 1, none⟩ = some (.slice A1 x.f1.length c1) ∧ w.cell? ⟨g, i * 3 + 2, none⟩ = some (.slice A2 x.f2.length c2) ∧
      w.frozen? ⟨g, i * 3, none⟩ = false ∧ w.frozen? ⟨g, i * 3 + 1, none⟩ = false ∧ w.frozen? ⟨g, i * 3 + 2, none⟩ = false ∧
      Kd.R k31 31 w base (fun k => True ∧ k ≠ g) (.slice A1 x.f1.length c1) x.f1 ∧ Kd.R k31 31 w base (fun k => True ∧ k ≠ g) (.slice A2 x.f2.length c2) x.f2 ∧ x.f1.length ≤ c1 ∧ x.f2.length ≤ c2 := by
  obtain ⟨hi, e⟩ := List.getElem?_eq_some_iff.1 hx
  obtain ⟨c, hcl, hM, hcc, hf⟩ := Kd.R_elem h (⟨false, [], []⟩ : S36) (i : Int) (by omega) (by omega)
  have hg : l.getD ((i : Int).toNat) ⟨false, [], []⟩ = x := by
    rw [List.getD_eq_getElem?_getD, Int.toNat_natCast, hx]; rfl
  rw [hg] at hM
  obtain ⟨v1, v2, rfl, r1, r2⟩ := k36_openM hM
  obtain ⟨A1, c1, rfl, h1, _⟩ := Kd.R_reads r1
  obtain ⟨A2, c2, rfl, h2, _⟩ := Kd.R_reads r2
  rw [Int.toNat_natCast] at hcc hf
  exact ⟨A1, c1, A2, c2, hcc 0 _ rfl, hcc 1 _ rfl, hcc 2 _ rfl, hf 0, hf 1, hf 2, r1, r2, h1, h2⟩
theorem OwnR.put {w : World} {base g cap : Nat} {l : List S36} (h : OwnR w base g cap l) {i : Nat} {x y : S36} (hx : l[i]? = some x) {j : Nat} {seg : List Value} {a b c : Value}
    (hc0 : w.cell? ⟨g, i * 3, none⟩ = some a) (hc1 : w.cell? ⟨g, i * 3 + 1, none⟩ = some b) (hc2 : w.cell? ⟨g, i * 3 + 2, none⟩ = some c) {v1 v2 : Value} (hs : [a, b, c].take j ++ seg ++ [a, b, c].drop (j + seg.length) = [.bool y.f0, v1, v2]) (hj : j + seg.length ≤ 3)
    (h1 : Kd.R k31 31 w base (fun k => True ∧ k ≠ g) v1 y.f1) (h2 : Kd.R k31 31 w base (fun k => True ∧ k ≠ g) v2 y.f2) : OwnR (w.setCells g (i * 3 + j) seg) base g cap (l.set i y) := by
  obtain ⟨hi, e⟩ := List.getElem?_eq_some_iff.1 hx
  have hr := (Kd.R_seg h (i : Int) (by omega) (by omega) (c := [a, b, c]) (seg := seg) (j := j) rfl (fun j u hu => by
    rw [Int.toNat_natCast]
    match j, hu with
    | 0, hu => cases hu; exact hc0
    | 1, hu => cases hu; exact hc1
    | 2, hu => cases hu; exact hc2) hj (x' := y) (okp := fun k => True ∧ k ≠ g) (by rw [hs]; exact k36_mkM _ _ _ y h1 h2) (fun k hk => ⟨trivial, hk.2⟩)).1
  rw [Int.toNat_natCast] at hr
  unfold OwnR
  rw [List.length_set]
  exact hr
theorem OwnR.not_g {w : World} {base g cap : Nat} {l : List S36} (h : OwnR w base g cap l) {b2 : Nat} {ok : Nat → Prop} {v : Value} {xs : List S31} (hv : Kd.R k31 31 w b2 ok v xs) : Kd.R k31 31 w b2 (fun k => True ∧ k ≠ g) v xs := by
  obtain ⟨cs, hc⟩ := Kd.R_typed h g (by simp [Value.ownBlock])
  exact Kd.R_mono (Kd.R_types hv hc (by decide)) (fun k hk => ⟨trivial, hk.2⟩)
/-- another list for what is there -/
theorem OwnR.put1 {w : World} {base g cap : Nat} {l : List S36} (h : OwnR w base g cap l) {i : Nat} {x : S36} (hx : l[i]? = some x) {b2 : Nat} {ok : Nat → Prop} {v : Value} {xs : List S31} (hb : base ≤ b2)
    (hv : Kd.R k31 31 w b2 ok v xs) : OwnR (w.setCell ⟨g, i * 3 + 1, none⟩ v) base g cap (l.set i ⟨x.f0, xs, x.f2⟩) := by
  obtain ⟨A1, c1, A2, c2, q0, q1, q2, _, _, _, r1, r2, _, _⟩ := h.cells hx
  have hr := h.put hx (y := ⟨x.f0, xs, x.f2⟩) (j := 1) (seg := [v]) q0 q1 q2 rfl (by simp) (Kd.R_lower (h.not_g hv) hb) r2
  simpa [World.setCells] using hr
/-- another list of hints -/
theorem OwnR.put2 {w : World} {base g cap : Nat} {l : List S36} (h : OwnR w base g cap l) {i : Nat} {x : S36} (hx : l[i]? = some x) {b2 : Nat} {ok : Nat → Prop} {v : Value} {xs : List S31} (hb : base ≤ b2)
    (hv : Kd.R k31 31 w b2 ok v xs) : OwnR (w.setCell ⟨g, i * 3 + 2, none⟩ v) base g cap (l.set i ⟨x.f0, x.f1, xs⟩) := by
  obtain ⟨A1, c1, A2, c2, q0, q1, q2, _, _, _, r1, r2, _, _⟩ := h.cells hx
  have hr := h.put hx (y := ⟨x.f0, x.f1, xs⟩) (j := 2) (seg := [v]) q0 q1 q2 rfl (by simp) r1 (Kd.R_lower (h.not_g hv) hb)
  simpa [World.setCells] using hr

theorem rdP (l : List S36) (i : Nat) (h : i < l.length) : rd_T36 l (i : Int) = l[i] := by
  unfold rd_T36
  simp [List.getD_eq_getElem?_getD, List.getElem?_eq_getElem h]
theorem copy_l0 (l : List S36) (hs : Short l) : ∀ d i : Nat, i + d = l.length → ∃ k, berylref17_Copy.l0 k l (l.take i) (i : Int) = some l
  | 0, i, e => ⟨1, by rw [berylref17_Copy.l0, if_neg (by omega), List.take_of_length_le (by omega)]⟩
  | d + 1, i, e => by
    obtain ⟨k, hk⟩ := copy_l0 l hs d (i + 1) (by omega)
    have hi : i < l.length := by omega
    have hx := hs.2 l[i] (List.getElem_mem hi)
    have hl6 := hs.1
    refine ⟨k + 1, ?_⟩
    rw [berylref17_Copy.l0, if_pos (by omega), if_pos (by omega), rdP l i hi, if_pos (by rw [List.length_nil]; omega), if_pos (by rw [List.length_nil]; omega), if_pos (by rw [List.length_take]; omega), show wrap64 ((i : Int) + 1) = ((i + 1 : Nat) : Int) by unfold wrap64; omega, List.nil_append, List.nil_append]
    rw [List.take_succ_eq_append_getElem hi] at hk
    exact hk
theorem rcopy_any (A : Option Addr) (n c : Nat) (l : List S36) (w : World) (hn : n = l.length) (hr : Kd.C k36 w A l.length l) (hc : n ≤ c) (hs : Short l) :
    Calls Try.prog 74 #[.slice A n c] w fun e w' => ∃ v, e = .returned v ∧ Kd.R k36 36 w' w.heap.size (fun _ => True) v l ∧ Below w.heap.size w w' := by
  subst hn
  obtain ⟨k, hk⟩ := copy_l0 l hs l.length 0 (by omega)
  refine (berylref17_Copy.calls k A c l l w hr hc hk).mono ?_
  rintro e w' ⟨v, rfl, hS, hB⟩
  exact ⟨v, rfl, Kd.S_R hS, hB⟩
/-- a list with a hint in place of another one about its object -/
def rWithL (h : S31) : List S31 → List S31
  | [] => [h]
  | x :: l => if x.f0 < h.f0 then x :: rWithL h l else h :: (if x.f0 = h.f0 then l else x :: l)
theorem rwith_mem (h : S31) : ∀ {l : List S31}, Sorted l → ∀ x, x ∈ rWithL h l ↔ x = h ∨ (x ∈ l ∧ x.f0 ≠ h.f0)
  | [], _, x => by
    unfold rWithL
    rw [List.mem_singleton]
    exact ⟨.inl, fun q => q.elim id (fun c => by cases c.1)⟩
  | y :: l, hs, x => by
    obtain ⟨s1, s2⟩ := List.pairwise_cons.1 hs
    unfold rWithL
    by_cases c : y.f0 < h.f0
    · rw [if_pos c, List.mem_cons, rwith_mem h s2 x, List.mem_cons]
      constructor
      · rintro (rfl | q | q)
        · exact .inr ⟨.inl rfl, by omega⟩
        · exact .inl q
        · exact .inr ⟨.inr q.1, q.2⟩
      · rintro (q | ⟨q | q, r⟩)
        · exact .inr (.inl q)
        · exact .inl q
        · exact .inr (.inr ⟨q, r⟩)
    · rw [if_neg c, List.mem_cons]
      by_cases c2 : y.f0 = h.f0
      · rw [if_pos c2, List.mem_cons]
        constructor
        · rintro (q | q)
          · exact .inl q
          · exact .inr ⟨.inr q, by have := s1 x q; omega⟩
        · rintro (q | ⟨q | q, r⟩)
          · exact .inl q
          · exact absurd (q ▸ c2) r
          · exact .inr q
      · rw [if_neg c2, List.mem_cons]
        constructor
        · rintro (q | q | q)
          · exact .inl q
          · exact .inr ⟨.inl q, by rw [q]; exact c2⟩
          · exact .inr ⟨.inr q, by have := s1 x q; omega⟩
        · rintro (q | ⟨q | q, r⟩)
          · exact .inl q
          · exact .inr (.inl q)
          · exact .inr (.inr q)
theorem rwith_sorted (h : S31) : ∀ {l : List S31}, Sorted l → Sorted (rWithL h l)
  | [], _ => List.pairwise_singleton _ _
  | y :: l, hs => by
    obtain ⟨s1, s2⟩ := List.pairwise_cons.1 hs
    unfold rWithL
    by_cases c : y.f0 < h.f0
    · rw [if_pos c]
      refine List.pairwise_cons.2 ⟨fun x hx => ?_, rwith_sorted h s2⟩
      rcases (rwith_mem h s2 x).1 hx with rfl | q
      · exact c
      · exact s1 x q.1
    · rw [if_neg c]
      by_cases c2 : y.f0 = h.f0
      · rw [if_pos c2]
        exact List.pairwise_cons.2 ⟨fun x hx => by have := s1 x hx; omega, s2⟩
      · rw [if_neg c2]
        refine List.pairwise_cons.2 ⟨fun x hx => ?_, hs⟩
        rcases List.mem_cons.1 hx with rfl | q
        · omega
        · have := s1 x q; omega
theorem rwith_put {l : List S31} (hs : Sorted l) (h : S31) : rWithL h l = putL l h :=
  sorted_ext (rwith_sorted h hs) (put_sorted hs h) fun x => by rw [rwith_mem h hs, put_mem]
set_option maxRecDepth 100000 in
set_option maxHeartbeats 4000000 in
theorem rwith_walk (A : Option Addr) (c : Nat) (l : List S31) (h : S31) (w : World) (hr : Kd.C k31 w A l.length l) (hc : l.length ≤ c) (hl : l.length ≤ 1000000000000) :
    Calls Try.prog 75 #[.slice A l.length c, .agg #[.int .i64 h.f0, .int .i64 h.f1, .int .i64 h.f2]] w fun e w' => ∃ v, e = .returned v ∧ Kd.R k31 31 w' w.heap.size (fun _ => True) v (rWithL h l) ∧ Below w.heap.size w w' := by
  have HR := Aside0.mk hr
  clear hr
  have hu := Try.underlying31
  have HI3 : Aside0 (∃ i, Try.prog.info? 31 = some i ∧ i.size = 3) := ⟨by obtain ⟨i, hi, _, hs, _⟩ := info_parts info31; exact ⟨i, hi, hs⟩⟩
  go_enter Try.func75, Try.ntmps75
  go_upto_region 1 with fail
  obtain ⟨gb, hgb⟩ : ∃ g, g = w.heap.size := ⟨_, rfl⟩
  obtain ⟨w1, hw1⟩ : ∃ W, W = w.alloc (Obj.cells #[Value.int IntKind.i64 h.f0, Value.int IntKind.i64 h.f1, Value.int IntKind.i64 h.f2] 31) := ⟨_, rfl⟩
  rw [← hw1, ← hgb]
  have HB1 : Aside0 (Below w.heap.size w w1) := ⟨by rw [hw1]; exact below_alloc (Below.refl _ _) _⟩
  have HQ1 : Aside0 (w1.heap[gb]? = some (.cells #[.int .i64 h.f0, .int .i64 h.f1, .int .i64 h.f2] 31 (0, 0))) := ⟨by rw [hw1, hgb]; exact heap_alloc_new _ _⟩
  clear hw1 hgb
  go_wp2_with fail
  go_loopw [5, 6] (fun u5 u6 wr => ∃ i : Nat, u6 = .int .i64 (i : Int) ∧ i ≤ l.length ∧ Aside0 (rWithL h l = l.take i ++ rWithL h (l.drop i)) ∧ Aside0 (Kd.R k31 31 wr w.heap.size (fun k => k ≠ gb) u5 (l.take i)) ∧ Aside0 (wr.heap[gb]? = some (.cells #[.int .i64 h.f0, .int .i64 h.f1, .int .i64 h.f2] 31 (0, 0))) ∧ Aside0 (Below w.heap.size w wr)) (fun _ u6 _ => l.length - (intOf u6).toNat)
  case atStart => exact ⟨0, rfl, Nat.zero_le _, ⟨by rw [List.take_zero, List.drop_zero]; rfl⟩, ⟨Kd.R_nil _ _ _ _ _⟩, HQ1, HB1⟩
  case round =>
    obtain ⟨i, rfl, hi, HE, HO, HQ, HB⟩ := hrel
    have HTL : Aside0 ((l.take i).length = i) := ⟨by rw [List.length_take]; omega⟩
    have key : (∃ x, i < l.length ∧ l[i]? = some x ∧ x.f0 < h.f0) ∨ (i = l.length ∨ ∃ x, i < l.length ∧ l[i]? = some x ∧ ¬ x.f0 < h.f0) := by
      by_cases c1 : i < l.length
      · by_cases c2 : l[i].f0 < h.f0
        · exact .inl ⟨_, c1, List.getElem?_eq_getElem c1, c2⟩
        · exact .inr (.inr ⟨_, c1, List.getElem?_eq_getElem c1, c2⟩)
      · exact .inr (.inl (by omega))
    obtain ⟨m0, m1, m2, _, _, _⟩ := blk3 HQ.out
    rcases key with ⟨x, hlt, hx, c2⟩ | key
    · have dlt : decide (i < l.length) = true := decide_eq_true hlt
      have dx : decide (x.f0 < h.f0) = true := decide_eq_true c2
      obtain ⟨ad, x2, rfl, hx2, p0, p1, p2⟩ := hint_at (Kd.C_below HR.out HB.out) i hlt
      rw [hx] at hx2
      obtain rfl := Option.some.inj hx2
      have HE2 : Aside0 (rWithL h l = l.take (i + 1) ++ rWithL h (l.drop (i + 1)) ∧ l.take (i + 1) = l.take i ++ [x]) := ⟨by
        obtain ⟨h1, h2⟩ := List.getElem?_eq_some_iff.1 hx
        have ht : l.take (i + 1) = l.take i ++ [x] := by rw [List.take_succ_eq_append_getElem h1, h2]
        refine ⟨?_, ht⟩
        rw [HE.out, List.drop_eq_getElem_cons h1, h2, rWithL, if_pos c2, ht, List.append_assoc]
        rfl⟩
      clear hx hx2 c2 HE
      go_upto_region 3 with fail
      go_cut [20] (fun u20 wx => u20 = .bool true ∧ ∃ nd, wx = wr.drewN nd)
      case first =>
        go_region
        all_goals
          go_wp2_with fail
          go_meet
          case rel => exact ⟨rfl, 1, rfl⟩
      case rest =>
        obtain ⟨rfl, nd, hwc⟩ := hcut
        obtain ⟨W, hW⟩ : ∃ W, W = wc := ⟨_, rfl⟩
        rw [← hW] at hwc ⊢
        have hb : Below wr.heap.size wr W := by rw [hwc]; exact pw_below_drewN (Below.refl _ _) nd
        have HO2 := Aside0.mk (Kd.R_below HO.out hb)
        have HQ2 := Aside0.mk (blk_below HQ.out hb)
        have HB2 := Aside0.mk (below_step HB.out hb)
        replace p0 := cell_below hb p0
        replace p1 := cell_below hb p1
        replace p2 := cell_below hb p2
        clear hW hwc hb HO HQ HB m0 m1 m2
        go_wp2_with (at_builtin; refine Kd.R_append k31 (w0 := w) w.heap.size rfl (.tmp 21) (.tmp 26) 34 31 (.agg #[(.int .i64 0), (.int .i64 0), (.int .i64 0)]) 24 rfl Try.underlying34 info31 rfl (by decide) (by omega) u5 (l.take i) x [.int .i64 x.f0, .int .i64 x.f1, .int .i64 x.f2] (fun k => k ≠ gb) (fun _ => False) rfl rfl ?aP (fun _ hk => hk.elim) ?aF HO2.out HB2.out HB2.out.size ?aL ?_)
        case aP => exact k31_mkM _ _ _ x
        case aF => exact fun k hk => by have := blk_lt HQ2.out; omega
        case aL => have := HTL.out; omega
        intro v3 w3 hO hB3 hg _
        have HQ3 := Aside0.mk (blk_grown HQ2.out hg (Kd.R_away HO2.out (fun _ hk => hk)))
        have HO3 := Aside0.mk hO
        have HB3 := Aside0.mk hB3
        clear hO hB3 hg
        go_wp2_with fail
        go_roundw
        case measure => simp [intOf]; omega
        case rel => exact ⟨i + 1, by go_num, by omega, ⟨HE2.out.1⟩, ⟨by rw [HE2.out.2]; exact HO3.out⟩, HQ3, HB3⟩
    · go_upto_region 3 with fail
      go_cut [20] (fun u20 wx => u20 = .bool false ∧ ∃ nd, wx = wr.drewN nd)
      case first =>
        rcases key with hi2 | ⟨x, hlt, hx, c2⟩
        · have dlt : decide (i < l.length) = false := decide_eq_false (by omega)
          clear hi2
          go_region
          all_goals
            go_wp2_with fail
            go_meet
            case rel => exact ⟨rfl, 1, rfl⟩
        · have dlt : decide (i < l.length) = true := decide_eq_true hlt
          have dx : decide (x.f0 < h.f0) = false := decide_eq_false c2
          obtain ⟨ad, x2, rfl, hx2, p0, p1, p2⟩ := hint_at (Kd.C_below HR.out HB.out) i hlt
          rw [hx] at hx2
          obtain rfl := Option.some.inj hx2
          clear hx hx2 c2
          go_region
          all_goals
            go_wp2_with fail
            go_meet
            case rel => exact ⟨rfl, 1, rfl⟩
      case rest =>
        obtain ⟨rfl, nd, hwc⟩ := hcut
        obtain ⟨W, hW⟩ : ∃ W, W = wc := ⟨_, rfl⟩
        rw [← hW] at hwc ⊢
        have hb : Below wr.heap.size wr W := by rw [hwc]; exact pw_below_drewN (Below.refl _ _) nd
        have HO2 := Aside0.mk (Kd.R_below HO.out hb)
        have HQ2 := Aside0.mk (blk_below HQ.out hb)
        have HB2 := Aside0.mk (below_step HB.out hb)
        clear hW hwc hb HO HQ HB m0 m1 m2
        obtain ⟨m0, m1, m2, _, _, _⟩ := blk3 HQ2.out
        go_wp2_with (at_builtin; refine Kd.R_append k31 (w0 := w) w.heap.size rfl (.tmp 30) (.tmp 32) 34 31 (.agg #[(.int .i64 0), (.int .i64 0), (.int .i64 0)]) 24 rfl Try.underlying34 info31 rfl (by decide) (by omega) u5 (l.take i) h [.int .i64 h.f0, .int .i64 h.f1, .int .i64 h.f2] (fun k => k ≠ gb) (fun _ => False) rfl rfl ?aP (fun _ hk => hk.elim) ?aF HO2.out HB2.out HB2.out.size ?aL ?_)
        case aP => exact k31_mkM _ _ _ h
        case aF => exact fun k hk => by have := blk_lt HQ2.out; omega
        case aL => have := HTL.out; omega
        intro v3 w3 hO hB3 hg _
        have HQ3 := Aside0.mk (blk_grown HQ2.out hg (Kd.R_away HO2.out (fun _ hk => hk)))
        have HO3 := Aside0.mk hO
        have HB3 := Aside0.mk hB3
        clear hO hB3 hg m0 m1 m2 HO2 HQ2 HB2
        obtain ⟨m0, m1, m2, _, _, _⟩ := blk3 HQ3.out
        have HRES0 : Aside0 (∃ (b : Bool) (j : Nat), j ≤ l.length ∧ (j : Int) = (if b = true then (i : Int) + 1 else (i : Int)) ∧ rWithL h l = l.take i ++ [h] ++ l.drop j ∧ ((b = false ∧ i = l.length) ∨ ∃ x, i < l.length ∧ l[i]? = some x ∧ (x.f0 == h.f0) = b)) := ⟨by
          rcases key with hi2 | ⟨x, hlt, hx, c2⟩
          · refine ⟨false, i, hi, by simp, ?_, .inl ⟨rfl, hi2⟩⟩
            rw [HE.out, List.drop_of_length_le (by omega), rWithL, List.append_nil]
          · obtain ⟨h1, h2⟩ := List.getElem?_eq_some_iff.1 hx
            by_cases c3 : x.f0 = h.f0
            · refine ⟨true, i + 1, by omega, by simp, ?_, .inr ⟨x, hlt, hx, by rw [c3]; simp⟩⟩
              rw [HE.out, List.drop_eq_getElem_cons h1, h2, rWithL, if_neg (by omega), if_pos c3, List.append_assoc]; rfl
            · refine ⟨false, i, hi, by simp, ?_, .inr ⟨x, hlt, hx, beq_eq_false_iff_ne.2 c3⟩⟩
              rw [HE.out, List.drop_eq_getElem_cons h1, h2, rWithL, if_neg (by omega), if_neg c3, List.append_assoc]; rfl⟩
        obtain ⟨b, j, hj, hji, hres, hcond⟩ := HRES0.out
        have HRES := Aside0.mk hres
        clear HRES0 hres key HE
        go_upto_region 7 with fail
        go_cut [47] (fun u47 wx => u47 = .bool b ∧ ∃ nd, wx = w3.drewN nd)
        case first =>
          rcases hcond with ⟨rfl, hi2⟩ | ⟨x, hlt, hx, c3⟩
          · have dlt : decide (i < l.length) = false := decide_eq_false (by omega)
            clear hi2 hji
            go_region
            all_goals
              go_wp2_with fail
              go_meet
              case rel => exact ⟨rfl, 1, rfl⟩
          · have dlt : decide (i < l.length) = true := decide_eq_true hlt
            obtain ⟨ad, x2, rfl, hx2, p0, p1, p2⟩ := hint_at (Kd.C_below HR.out HB3.out) i hlt
            rw [hx] at hx2
            obtain rfl := Option.some.inj hx2
            clear hx hx2 hji
            go_region
            all_goals
              go_wp2_with fail
              go_meet
              case rel => exact ⟨by first | rfl | rw [c3], 1, rfl⟩
        case rest =>
        obtain ⟨rfl, nd2, hwc⟩ := hcut
        obtain ⟨W4, hW⟩ : ∃ W, W = wc := ⟨_, rfl⟩
        rw [← hW] at hwc ⊢
        have hb : Below w3.heap.size w3 W4 := by rw [hwc]; exact pw_below_drewN (Below.refl _ _) nd2
        have HO4 := Aside0.mk (Kd.R_below HO3.out hb)
        have HQ4 := Aside0.mk (blk_below HQ3.out hb)
        have HB4 := Aside0.mk (below_step HB3.out hb)
        obtain ⟨v4, hv4⟩ : ∃ v, v = v3 := ⟨_, rfl⟩
        rw [← hv4] at HO4 ⊢
        obtain ⟨y4, hy4⟩ : ∃ y, y = l.take i ++ [h] := ⟨_, rfl⟩
        rw [← hy4] at HO4 HRES
        have HY4 : Aside0 (y4.length ≤ 1000000000001) := ⟨by rw [hy4, List.length_append, List.length_singleton]; have := HTL.out; omega⟩
        clear hW hwc hb HO3 HQ3 HB3 m0 m1 m2 hcond hv4 hy4
        obtain ⟨i3, hi3⟩ := HI3.out
        replace HI3 := Aside0.mk hi3
        clear hi3
        cases b with
        | false =>
          have hjn : j = i := by simp at hji; omega
          subst hjn
          clear hji
          have hcut := cut_from (P := Try.prog) 34 31 .i64 Try.underlying34 HI3.out.1 3 HI3.out.2 A l.length c (j : Int) (by omega) (by omega)
          have hcr : Kd.C k31 W4 (if c = j then A else A.map (·.add (j * 3))) (l.drop j).length (l.drop j) := by
            have h0 := Kd.C_drop (m := j) (c := c) (Kd.C_below HR.out HB4.out) (by omega) hc
            first | exact h0 | (rw [List.length_drop]; exact h0)
          rw [Int.toNat_natCast] at hcut
          have HCR := Aside0.mk hcr
          obtain ⟨A9, hA9⟩ : ∃ A1, A1 = (if c = j then A else A.map (·.add (j * 3))) := ⟨_, rfl⟩
          rw [← hA9] at hcut HCR
          have hld : l.length - j = (l.drop j).length := by rw [List.length_drop]
          rw [hld] at hcut
          obtain ⟨R9, hR9⟩ : ∃ r, r = l.drop j := ⟨_, rfl⟩
          rw [← hR9] at hcut HCR HRES
          have HL9 : Aside0 (R9.length ≤ 1000000000000) := ⟨by rw [hR9, List.length_drop]; omega⟩
          clear hcr hA9 hld hR9
          go_wp2_with (at_builtin; refine Kd.R_append_rows k31 (w0 := w) w.heap.size rfl (.tmp 50) (.tmp 53) 34 31 (.agg #[(.int .i64 0), (.int .i64 0), (.int .i64 0)]) 24 rfl Try.underlying34 info31 rfl (by decide) (by omega) v4 y4 R9 _ _ _ (fun k_ => k_ ≠ gb) (fun _ => False) rfl rfl HO4.out ?aR (fun _ _ h => h) (fun _ h => h.elim) ?aF HB4.out HB4.out.size ?aL ?_)
          case aR => exact HCR.out
          case aF => exact fun k hk => by have := blk_lt HQ4.out; omega
          case aL => have := HL9.out; have := HY4.out; omega
          intro v5 w5 hO hB5 _ _
          have HO5 := Aside0.mk hO
          have HB5 := Aside0.mk hB5
          clear hO hB5
          go_wp2_with fail
          go_returns
          exact ⟨v5, rfl, by rw [HRES.out]; exact Kd.R_mono HO5.out (fun _ _ => trivial), HB5.out⟩
        | true =>
          have hjn : j = i + 1 := by simp at hji; omega
          subst hjn
          clear hji
          have hcut := cut_from (P := Try.prog) 34 31 .i64 Try.underlying34 HI3.out.1 3 HI3.out.2 A l.length c ((i : Int) + 1) (by omega) (by omega)
          have hcr : Kd.C k31 W4 (if c = (i + 1) then A else A.map (·.add ((i + 1) * 3))) (l.drop (i + 1)).length (l.drop (i + 1)) := by
            have h0 := Kd.C_drop (m := (i + 1)) (c := c) (Kd.C_below HR.out HB4.out) (by omega) hc
            first | exact h0 | (rw [List.length_drop]; exact h0)
          rw [show ((i : Int) + 1).toNat = i + 1 by omega] at hcut
          have HCR := Aside0.mk hcr
          obtain ⟨A9, hA9⟩ : ∃ A1, A1 = (if c = (i + 1) then A else A.map (·.add ((i + 1) * 3))) := ⟨_, rfl⟩
          rw [← hA9] at hcut HCR
          have hld : l.length - (i + 1) = (l.drop (i + 1)).length := by rw [List.length_drop]
          rw [hld] at hcut
          obtain ⟨R9, hR9⟩ : ∃ r, r = l.drop (i + 1) := ⟨_, rfl⟩
          rw [← hR9] at hcut HCR HRES
          have HL9 : Aside0 (R9.length ≤ 1000000000000) := ⟨by rw [hR9, List.length_drop]; omega⟩
          clear hcr hA9 hld hR9
          go_wp2_with (at_builtin; refine Kd.R_append_rows k31 (w0 := w) w.heap.size rfl (.tmp 50) (.tmp 53) 34 31 (.agg #[(.int .i64 0), (.int .i64 0), (.int .i64 0)]) 24 rfl Try.underlying34 info31 rfl (by decide) (by omega) v4 y4 R9 _ _ _ (fun k_ => k_ ≠ gb) (fun _ => False) rfl rfl HO4.out ?aR (fun _ _ h => h) (fun _ h => h.elim) ?aF HB4.out HB4.out.size ?aL ?_)
          case aR => exact HCR.out
          case aF => exact fun k hk => by have := blk_lt HQ4.out; omega
          case aL => have := HL9.out; have := HY4.out; omega
          intro v5 w5 hO hB5 _ _
          have HO5 := Aside0.mk hO
          have HB5 := Aside0.mk hB5
          clear hO hB5
          go_wp2_with fail
          go_returns
          exact ⟨v5, rfl, by rw [HRES.out]; exact Kd.R_mono HO5.out (fun _ _ => trivial), HB5.out⟩
theorem rwith_any (A : Option Addr) (n c : Nat) (l : List S31) (h : S31) (w : World) (hn : n = l.length) (hr : Kd.C k31 w A l.length l) (hc : n ≤ c) (hl : l.length ≤ 1000000000000) (hs : Sorted l) :
    Calls Try.prog 75 #[.slice A n c, .agg #[.int .i64 h.f0, .int .i64 h.f1, .int .i64 h.f2]] w fun e w' => ∃ v, e = .returned v ∧ Kd.R k31 31 w' w.heap.size (fun _ => True) v (putL l h) ∧ Below w.heap.size w w' := by
  subst hn
  rw [← rwith_put hs]
  exact rwith_walk A c l h w hr hc hl
theorem wout_l0 (l : List S31) (oid : Int) (hl : l.length ≤ 1000000000000) : ∀ (d i : Nat) (acc : List S31), i + d = l.length → acc.length ≤ i → ∃ k, berylref17_without.l0 k l oid acc (i : Int) = some (acc ++ withoutL (l.drop i) oid)
  | 0, i, acc, e, ha => ⟨1, by
    rw [berylref17_without.l0, if_neg (by omega), List.drop_of_length_le (by omega)]
    unfold withoutL
    rw [List.filter_nil, List.append_nil]⟩
  | d + 1, i, acc, e, ha => by
    have hi : i < l.length := by omega
    rw [List.drop_eq_getElem_cons hi]
    by_cases c : l[i].f0 = oid
    · obtain ⟨k, hk⟩ := wout_l0 l oid hl d (i + 1) acc (by omega) (by omega)
      refine ⟨k + 1, ?_⟩
      rw [berylref17_without.l0, if_pos (by omega), if_pos (by omega), rdH l i hi, if_pos c, show wrap64 ((i : Int) + 1) = ((i + 1 : Nat) : Int) by unfold wrap64; omega, hk]
      unfold withoutL
      rw [List.filter_cons_of_neg (by rw [c]; simp)]
    · obtain ⟨k, hk⟩ := wout_l0 l oid hl d (i + 1) (acc ++ [l[i]]) (by omega) (by rw [List.length_append, List.length_singleton]; omega)
      refine ⟨k + 1, ?_⟩
      rw [berylref17_without.l0, if_pos (by omega), if_pos (by omega), rdH l i hi, if_neg c, if_pos (by omega), show wrap64 ((i : Int) + 1) = ((i + 1 : Nat) : Int) by unfold wrap64; omega]
      unfold withoutL at hk ⊢
      rw [List.filter_cons_of_pos (by simpa using c)]
      rw [List.append_assoc] at hk
      exact hk
theorem rwithout_any (A : Option Addr) (n c : Nat) (l : List S31) (oid : Int) (w : World) (hn : n = l.length) (hr : Kd.C k31 w A l.length l) (hc : n ≤ c) (hl : l.length ≤ 1000000000000) :
    Calls Try.prog 77 #[.slice A n c, .int .i64 oid] w fun e w' => ∃ v, e = .returned v ∧ Kd.R k31 31 w' w.heap.size (fun _ => True) v (withoutL l oid) ∧ Below w.heap.size w w' := by
  subst hn
  obtain ⟨k, hk⟩ := wout_l0 l oid hl l.length 0 [] (by omega) (Nat.le_refl _)
  rw [List.drop_zero, List.nil_append] at hk
  exact berylref17_without.calls k A c l oid _ w hr hc hk
end Go.Proofs.Ytjnceoohlcchnaa.Print

/-! The reference: what was asked; looking. -/
namespace Go.Proofs.Ytjnceoohlcchnaa.Print
open Go Go.RowKit Go.Deep Go.Proofs.YtjnceoohlcchnaaW.PrintWords Go.Proofs.YtjnceoohlcchnaaW.PrintLast Go.Proofs.YtjnceoohlcchnaaW.PrintMore

/-! what was asked -/
def rAsked (l : List S36) (place oid : Int) : Int := if rCheck l = 0 then (if (decide (place < 0) || (decide ((l.length : Int) ≤ place) || decide (oid < 1))) = true then 1 else 0) else 170
theorem rasked_is (l : List S36) (place oid : Int) : rAsked l place oid = givenC l (decide (1 ≤ oid)) [place] := by
  unfold rAsked givenC
  rw [rcheck_is]
  unfold checkC
  by_cases c : checkF l = true
  · rw [if_pos c, if_pos c, if_pos rfl]
    have : (decide (place < 0) || (decide ((l.length : Int) ≤ place) || decide (oid < 1))) = (!decide (1 ≤ oid) || [place].any (offP l.length)) := by
      unfold offP
      rw [List.any_cons, List.any_nil, Bool.or_false]
      by_cases a : 1 ≤ oid
      · rw [decide_eq_true a, decide_eq_false (by omega : ¬ oid < 1)]; simp
      · rw [decide_eq_false a, decide_eq_true (by omega : oid < 1)]; simp
    rw [this]
  · rw [if_neg c, if_neg c, if_neg (by omega)]
theorem rasked_any (A : Option Addr) (n c : Nat) (m : List S36) (place oid : Int) (w : World) (hn : n = m.length) (hr : Kd.C k36 w A m.length m) (hc : n ≤ c) (hs : Short m) :
    Calls Try.prog 72 #[.slice A n c, .int .i64 place, .int .i64 oid] w fun e w' => e = .returned (.int .i64 (givenC m (decide (1 ≤ oid)) [place])) ∧ Below w.heap.size w w' := by
  subst hn
  rw [← rasked_is]
  have HR := Aside0.mk hr
  have HS := Aside0.mk hs
  clear hr hs
  go_enter Try.func72, Try.ntmps72
  go_wp2_with fail
  refine (rcheck_any A m.length c m w rfl HR.out hc HS.out).mono ?_
  rintro e w2 ⟨rfl, hB⟩
  have HB2 := Aside0.mk hB
  clear hB
  by_cases c0 : rCheck m = 0
  rotate_left
  · have HV : Aside0 (rAsked m place oid = 170) := ⟨by unfold rAsked; rw [if_neg c0]⟩
    have d0 : (rCheck m != 0) = true := bne_iff_ne.2 c0
    clear c0
    go_wp2_with fail
    go_returns
    exact ⟨by rw [HV.out]; rfl, HB2.out⟩
  have HV : Aside0 (rAsked m place oid = if (decide (place < 0) || (decide ((m.length : Int) ≤ place) || decide (oid < 1))) = true then 1 else 0) := ⟨by unfold rAsked; rw [if_pos c0]⟩
  rw [c0]
  clear c0
  obtain ⟨b1, hb1⟩ : ∃ b, decide (place < 0) = b := ⟨_, rfl⟩
  obtain ⟨b2, hb2⟩ : ∃ b, decide ((m.length : Int) ≤ place) = b := ⟨_, rfl⟩
  obtain ⟨b3, hb3⟩ : ∃ b, decide (oid < 1) = b := ⟨_, rfl⟩
  rw [hb1, hb2, hb3] at HV
  cases b1 <;> cases b2 <;> cases b3
  all_goals
    go_wp2_with fail
    go_returns
    exact ⟨by rw [HV.out]; rfl, HB2.out⟩
/-! looking -/
theorem rat_look {l : List S31} (hs : Sorted l) (oid : Int) : (rAt l oid = -1 ∧ atB l oid = false ∧ lookL l oid = ⟨0, 0, 0⟩) ∨ ∃ (q : Nat) (g : S31), rAt l oid = (q : Int) ∧ q < l.length ∧ l[q]? = some g ∧ atB l oid = true ∧ lookL l oid = g := by
  rcases rget_cases l oid with ⟨a, b⟩ | ⟨q, g, a, b, c, d⟩
  · rcases rget_spec l oid with ⟨_, _, h⟩ | ⟨g, e, _⟩
    · obtain ⟨e1, e2⟩ := at_none hs h
      exact .inl ⟨b, e1, e2⟩
    · rw [a] at e; cases e
  · rcases rget_spec l oid with ⟨e, _⟩ | ⟨g', e, _, m, f⟩
    · rw [a] at e; cases e
    · rw [a] at e
      cases e
      obtain ⟨e1, e2⟩ := look_of_mem hs m
      rw [f] at e1 e2
      exact .inr ⟨q, g, b, c, d, e1, e2⟩
set_option maxRecDepth 100000 in
set_option maxHeartbeats 4000000 in
theorem rlook_any (A : Option Addr) (n c : Nat) (l : List S36) (place oid : Int) (w : World) (hn : n = l.length) (hr : Kd.C k36 w A l.length l) (hc : n ≤ c) (hl : Short l) :
    Calls Try.prog 32 #[.slice A n c, .int .i64 place, .int .i64 oid] w fun e w' => e = .returned (.tuple #[hintV (lookF l place oid).1, .bool (lookF l place oid).2.1, .int .i64 (lookF l place oid).2.2]) ∧ Below w.heap.size w w' := by
  subst hn
  have HR := Aside0.mk hr
  have HS := Aside0.mk hl
  clear hr hl
  have hu := Try.underlying31
  go_enter Try.func32, Try.ntmps32
  go_wp2_with fail
  obtain ⟨gr, hgr⟩ : ∃ g, g = w.heap.size := ⟨_, rfl⟩
  obtain ⟨w1, hw1⟩ : ∃ w1, w1 = w.alloc (Obj.cells #[Value.int IntKind.i64 0, Value.int IntKind.i64 0, Value.int IntKind.i64 0] 31) := ⟨_, rfl⟩
  rw [← hw1, ← hgr]
  have HB1 : Aside0 (Below w.heap.size w w1) := ⟨by rw [hw1]; exact below_alloc (Below.refl _ _) _⟩
  have HQ1 : Aside0 (w1.heap[gr]? = some (.cells #[.int .i64 0, .int .i64 0, .int .i64 0] 31 (0, 0))) := ⟨by rw [hw1, hgr]; exact heap_alloc_new _ _⟩
  have HG : Aside0 (w.heap.size ≤ gr) := ⟨by omega⟩
  clear hw1 hgr
  refine (rasked_any A l.length c l place oid w1 rfl (Kd.C_below HR.out HB1.out) hc HS.out).mono ?_
  rintro e w2 ⟨rfl, hB⟩
  have HB2 := Aside0.mk (below_step HB1.out hB)
  have HQ2 := Aside0.mk (blk_below HQ1.out hB)
  clear hB HB1 HQ1
  obtain ⟨ok, hok⟩ : ∃ ok, ok = decide (1 ≤ oid) := ⟨_, rfl⟩
  rw [← hok]
  by_cases hgc : givenC l ok [place] = 0
  rotate_left
  · have HV : Aside0 (lookF l place oid = (⟨0, 0, 0⟩, false, givenC l ok [place])) := ⟨by unfold lookF; rw [← hok, if_neg hgc]⟩
    obtain ⟨gc, hgc2⟩ : ∃ gc, gc = givenC l ok [place] := ⟨_, rfl⟩
    rw [← hgc2] at hgc HV ⊢
    have dg : (gc != 0) = true := by rw [bne_iff_ne]; exact hgc
    clear hgc hgc2 hok
    obtain ⟨q0, q1, q2, f0, f1, f2⟩ := blk3 HQ2.out
    go_wp2_with fail
    refine bodyPost_ret (results_ctt rfl _ _ gr 31 #[.int .i64 0, .int .i64 0, .int .i64 0] (0, 0) _ rfl (blk_store3 HQ2.out _ _ _) Try.underlying31 rfl (by kernel_rfl)) rfl ?_
    exact ⟨by rw [HV.out]; rfl, below_store3 HB2.out HG.out _ _ _⟩
  obtain ⟨i, hpi, hil, hx⟩ := given_post hgc
  have hvat := check_vat (given_in hgc).2.1
  have HV : Aside0 (lookF l place oid = if atB (postA l place).f1 oid = true then (lookL (postA l place).f1 oid, true, 0) else if atB (postA l place).f2 oid = true then (lookL (postA l place).f2 oid, false, 0) else (⟨0, 0, 0⟩, false, 3)) := ⟨by unfold lookF; rw [← hok, if_pos hgc]⟩
  obtain ⟨x, hxe⟩ : ∃ x, x = postA l place := ⟨_, rfl⟩
  rw [← hxe] at hx HV
  clear hxe
  subst hpi
  rw [hgc]
  have hok2 := hvat.ok x (List.mem_of_getElem? hx)
  have HA1 := Aside0.mk (rat_look hok2.has.sorted oid)
  have HA2 := Aside0.mk (rat_look hok2.hints.sorted oid)
  have i0 : (0 : Int) ≤ (i : Int) := by omega
  have i1 : (i : Int) < (l.length : Int) := by omega
  have hd : decide (i < l.length) = true := decide_eq_true hil
  obtain ⟨ad, x', A1, c1, A2, c2, rfl, hx', p0, p1, p2, hc1, hC1, hc2, hC2⟩ := post_at (Kd.C_below HR.out HB2.out) i hil
  obtain rfl : x' = x := by rw [hx] at hx'; exact (Option.some.inj hx').symm
  have HC1 := Aside0.mk hC1
  have HC2 := Aside0.mk hC2
  have hs := HS.out.2 x' (List.mem_of_getElem? hx)
  have hs1 := hs.1
  have hs2 := hs.2
  have HP := Aside0.mk (And.intro p1 p2)
  clear hgc hok hx hx' hC1 hC2 hs hvat hok2 p0 p2
  go_wp2_with fail
  refine (rat_any A1 x'.f1.length c1 x'.f1 oid _ rfl HC1.out hc1 hs1).mono ?_
  rintro e w3 ⟨rfl, hB⟩
  have HB3 := Aside0.mk (below_step HB2.out hB)
  have HQ3 := Aside0.mk (blk_below HQ2.out hB)
  have HC13 := Aside0.mk (Kd.C_below HC1.out hB)
  have HC23 := Aside0.mk (Kd.C_below HC2.out hB)
  have HP3 := Aside0.mk (And.intro (cell_below hB HP.out.1) (cell_below hB HP.out.2))
  clear hB p1 HB2 HQ2 HC1 HC2 HP
  obtain ⟨p1, p2⟩ := HP3.out
  obtain ⟨q0, q1, q2, f0, f1, f2⟩ := blk3 HQ3.out
  rcases HA1.out with ⟨e1, e2, e3⟩ | ⟨q, g, e1, hq, hg, e2, e3⟩
  · rw [e1]
    have HV2 : Aside0 (lookF l i oid = if atB x'.f2 oid = true then (lookL x'.f2 oid, false, 0) else (⟨0, 0, 0⟩, false, 3)) := ⟨by rw [HV.out, e2]; rfl⟩
    clear e1 e2 e3 HA1 HV
    go_wp2_with fail
    refine (rat_any A2 x'.f2.length c2 x'.f2 oid _ rfl HC23.out hc2 hs2).mono ?_
    rintro e w4 ⟨rfl, hB⟩
    have HB4 := Aside0.mk (below_step HB3.out hB)
    have HQ4 := Aside0.mk (blk_below HQ3.out hB)
    have HC24 := Aside0.mk (Kd.C_below HC23.out hB)
    have HP4 := Aside0.mk (cell_below hB p2)
    clear hB p1 p2 q0 q1 q2 f0 f1 f2 HB3 HQ3 HC13 HC23 HP3
    obtain ⟨q0, q1, q2, f0, f1, f2⟩ := blk3 HQ4.out
    have p2 := HP4.out
    rcases HA2.out with ⟨e1, e2, e3⟩ | ⟨q, g, e1, hq, hg, e2, e3⟩
    · rw [e1]
      have HV3 : Aside0 (lookF l i oid = (⟨0, 0, 0⟩, false, 3)) := ⟨by rw [HV2.out, e2]; rfl⟩
      clear e1 e2 e3 HA2 HV2
      go_wp2_with fail
      refine bodyPost_ret (results_ctt rfl _ _ gr 31 #[.int .i64 0, .int .i64 0, .int .i64 0] (0, 0) _ rfl (blk_store3 HQ4.out _ _ _) Try.underlying31 rfl (by kernel_rfl)) rfl ?_
      exact ⟨by rw [HV3.out]; rfl, below_store3 HB4.out HG.out _ _ _⟩
    · rw [e1]
      have HV3 : Aside0 (lookF l i oid = (g, false, 0)) := ⟨by rw [HV2.out, e2, e3]; rfl⟩
      obtain ⟨bd, g2, rfl, hg2, r0, r1, r2⟩ := hint_at HC24.out q hq
      rw [hg] at hg2
      obtain rfl := Option.some.inj hg2
      have j0 : (0 : Int) ≤ (q : Int) := by omega
      have j1 : (q : Int) < (x'.f2.length : Int) := by omega
      have j2 : decide (q < x'.f2.length) = true := decide_eq_true hq
      have j3 : decide ((q : Int) < 0) = false := decide_eq_false (by omega)
      clear e1 e2 e3 HA2 HV2 hg hg2
      go_wp2_with fail
      refine bodyPost_ret (results_ctt rfl _ _ gr 31 #[.int .i64 g.f0, .int .i64 g.f1, .int .i64 g.f2] (0, 0) _ rfl (blk_store3 HQ4.out _ _ _) Try.underlying31 rfl (by kernel_rfl)) rfl ?_
      exact ⟨by rw [HV3.out]; rfl, below_store3 HB4.out HG.out _ _ _⟩
  · rw [e1]
    have HV3 : Aside0 (lookF l i oid = (g, true, 0)) := ⟨by rw [HV.out, e2, e3]; rfl⟩
    obtain ⟨bd, g2, rfl, hg2, r0, r1, r2⟩ := hint_at HC13.out q hq
    rw [hg] at hg2
    obtain rfl := Option.some.inj hg2
    have j0 : (0 : Int) ≤ (q : Int) := by omega
    have j1 : (q : Int) < (x'.f1.length : Int) := by omega
    have j2 : decide (q < x'.f1.length) = true := decide_eq_true hq
    have j3 : decide ((0 : Int) ≤ (q : Int)) = true := decide_eq_true j0
    clear e1 e2 e3 HA1 HA2 HV hg hg2
    go_wp2_with fail
    refine bodyPost_ret (results_ctt rfl _ _ gr 31 #[.int .i64 g.f0, .int .i64 g.f1, .int .i64 g.f2] (0, 0) _ rfl (blk_store3 HQ3.out _ _ _) Try.underlying31 rfl (by kernel_rfl)) rfl ?_
    exact ⟨by rw [HV3.out]; rfl, below_store3 HB3.out HG.out _ _ _⟩
/-! where something is -/
def rHomeI (oid : Int) : List S36 → Nat
  | [] => 0
  | x :: l => if 0 ≤ rAt x.f1 oid then 0 else rHomeI oid l + 1
theorem rHomeI_le (oid : Int) : ∀ l : List S36, rHomeI oid l ≤ l.length
  | [] => Nat.le_refl _
  | h :: l => by
    unfold rHomeI
    have := rHomeI_le oid l
    split
    · exact Nat.zero_le _
    · rw [List.length_cons]; omega
def rHome (l : List S36) (oid : Int) : Int := if rHomeI oid l < l.length then (rHomeI oid l : Int) else -1
set_option maxRecDepth 100000 in
theorem rhome_any (A : Option Addr) (n c : Nat) (m : List S36) (oid : Int) (w : World) (hn : n = m.length) (hr : Kd.C k36 w A m.length m) (hc : n ≤ c) (hs : Short m) :
    Calls Try.prog 76 #[.slice A n c, .int .i64 oid] w fun e w' => e = .returned (.int .i64 (rHome m oid)) ∧ Below w.heap.size w w' := by
  subst hn
  have HR := Aside0.mk hr
  have HS := Aside0.mk hs
  have hm6 := hs.1
  clear hr hs
  go_enter Try.func76, Try.ntmps76
  go_wp2_with fail
  go_loopw [5] (fun u5 wr => ∃ i : Nat, u5 = .int .i64 (i : Int) ∧ i ≤ m.length ∧ Aside0 (rHomeI oid m = i + rHomeI oid (m.drop i)) ∧ Aside0 (Below w.heap.size w wr)) (fun u5 _ => m.length - (intOf u5).toNat)
  case atStart => exact ⟨0, rfl, Nat.zero_le _, ⟨by rw [Nat.zero_add]; rfl⟩, ⟨Below.refl _ _⟩⟩
  case round =>
    obtain ⟨i, rfl, hi, HE, HBR⟩ := hrel
    by_cases hlt : i < m.length
    rotate_left
    · have di : decide (i < m.length) = false := decide_eq_false hlt
      have HV : Aside0 (rHome m oid = -1) := ⟨by unfold rHome; rw [HE.out, if_neg (by omega)]⟩
      go_wp2_with fail
      go_returns
      exact ⟨by rw [HV.out]; rfl, HBR.out⟩
    have di : decide (i < m.length) = true := decide_eq_true hlt
    have i0 : (0 : Int) ≤ (i : Int) := by omega
    have i1 : (i : Int) < (m.length : Int) := by omega
    obtain ⟨ad, x, A1, c1, A2, c2, rfl, hx, p0, p1, p2, l1, g1, l2, g2⟩ := post_at (Kd.C_below HR.out HBR.out) i hlt
    have HST : Aside0 (rHomeI oid m = i + (if 0 ≤ rAt x.f1 oid then 0 else rHomeI oid (m.drop (i + 1)) + 1)) := ⟨by
      obtain ⟨h1, h2⟩ := List.getElem?_eq_some_iff.1 hx
      rw [HE.out, List.drop_eq_getElem_cons h1, h2, rHomeI]⟩
    have HSX := Aside0.mk (HS.out.2 x (List.mem_of_getElem? hx))
    have G1 := Aside0.mk g1
    clear hx g1 g2 p0 p2 l2
    go_wp2_with fail
    refine (rat_any A1 x.f1.length c1 x.f1 oid wr rfl G1.out l1 HSX.out.1).mono ?_
    rintro e w2 ⟨rfl, hB⟩
    have HB2 := Aside0.mk (below_step HBR.out hB)
    clear hB p1
    by_cases ck : 0 ≤ rAt x.f1 oid
    · have dk : decide (0 ≤ rAt x.f1 oid) = true := decide_eq_true ck
      have HV : Aside0 (rHome m oid = (i : Int)) := ⟨by unfold rHome; rw [HST.out, if_pos ck, if_pos (by omega)]; rfl⟩
      clear ck
      go_wp2_with fail
      go_returns
      exact ⟨by rw [HV.out]; rfl, HB2.out⟩
    · have dk : decide (0 ≤ rAt x.f1 oid) = false := decide_eq_false ck
      have HE2 : Aside0 (rHomeI oid m = i + 1 + rHomeI oid (m.drop (i + 1))) := ⟨by rw [HST.out, if_neg ck]; omega⟩
      clear ck
      go_wp2_with fail
      go_roundw
      case measure => simp [intOf]; omega
      case rel => exact ⟨i + 1, by go_num, by omega, HE2, HB2⟩
theorem rhome_where (oid : Int) : ∀ {l : List S36}, (∀ p ∈ l, Sorted p.f1) → (rHomeI oid l = l.length ∧ whereL l oid = (⟨0, 0, 0⟩, false)) ∨ ∃ (x : S36) (q : Nat) (g : S31), rHomeI oid l < l.length ∧ l[rHomeI oid l]? = some x ∧ rAt x.f1 oid = (q : Int) ∧ q < x.f1.length ∧ x.f1[q]? = some g ∧ whereL l oid = (g, true)
  | [], _ => .inl ⟨rfl, rfl⟩
  | x :: l, h => by
    unfold rHomeI whereL
    rcases rat_look (h x (List.mem_cons_self ..)) oid with ⟨e1, e2, _⟩ | ⟨q, g, e1, hq, hg, e2, e3⟩
    · rw [e1, e2, if_neg (by omega), if_neg (by simp)]
      rcases rhome_where oid (l := l) (fun p hp => h p (List.mem_cons_of_mem _ hp)) with ⟨a, b⟩ | ⟨y, q, g, a, b, c, d, e, f⟩
      · exact .inl ⟨by rw [a]; rfl, b⟩
      · exact .inr ⟨y, q, g, by rw [List.length_cons]; omega, by rw [List.getElem?_cons_succ]; exact b, c, d, e, f⟩
    · rw [e1, e2, if_pos (by omega), if_pos rfl]
      exact .inr ⟨x, q, g, by rw [List.length_cons]; omega, rfl, e1, hq, hg, by rw [e3]⟩
theorem rhome_cases {l : List S36} {n : Int} (hv : Vat l n) (oid : Int) : (rHome l oid = -1 ∧ whereL l oid = (⟨0, 0, 0⟩, false)) ∨ ∃ (i : Nat) (x : S36) (q : Nat) (g : S31), rHome l oid = (i : Int) ∧ i < l.length ∧ l[i]? = some x ∧ rAt x.f1 oid = (q : Int) ∧ q < x.f1.length ∧ x.f1[q]? = some g ∧ whereL l oid = (g, true) := by
  rcases rhome_where oid (l := l) (fun p hp => (hv.ok p hp).has.sorted) with ⟨a, b⟩ | ⟨x, q, g, a, b, c, d, e, f⟩
  · exact .inl ⟨by unfold rHome; rw [if_neg (by omega)], b⟩
  · exact .inr ⟨_, x, q, g, by unfold rHome; rw [if_pos a], a, b, c, d, e, f⟩
end Go.Proofs.Ytjnceoohlcchnaa.Print

/-! The reference: forgetting, making, where something is. -/
namespace Go.Proofs.Ytjnceoohlcchnaa.Print
open Go Go.RowKit Go.Deep Go.Proofs.YtjnceoohlcchnaaW.PrintWords Go.Proofs.YtjnceoohlcchnaaW.PrintLast Go.Proofs.YtjnceoohlcchnaaW.PrintMore

set_option maxRecDepth 100000 in
set_option maxHeartbeats 8000000 in
theorem rforget_any (A : Option Addr) (n c : Nat) (l : List S36) (place oid : Int) (w : World) (hn : n = l.length) (hr : Kd.C k36 w A l.length l) (hc : n ≤ c) (hl : Short l) :
    Calls Try.prog 31 #[.slice A n c, .int .i64 place, .int .i64 oid] w fun e w' => ∃ A2 c2, e = .returned (.tuple #[.slice A2 (forgetF l place oid).1.length c2, .int .i64 (forgetF l place oid).2]) ∧ (forgetF l place oid).1.length ≤ c2 ∧ Kd.C k36 w' A2 (forgetF l place oid).1.length (forgetF l place oid).1 ∧ Below w.heap.size w w' := by
  subst hn
  have HR := Aside0.mk hr
  have HS := Aside0.mk hl
  have hl6 := hl.1
  clear hr hl
  go_enter Try.func31, Try.ntmps31
  go_wp2_with fail
  refine (rasked_any A l.length c l place oid w rfl HR.out hc HS.out).mono ?_
  rintro e w2 ⟨rfl, hB⟩
  have HB2 := Aside0.mk hB
  clear hB
  obtain ⟨ok, hok⟩ : ∃ ok, ok = decide (1 ≤ oid) := ⟨_, rfl⟩
  rw [← hok]
  by_cases hgc : givenC l ok [place] = 0
  rotate_left
  · have HV : Aside0 (forgetF l place oid = ([], givenC l ok [place])) := ⟨by unfold forgetF; rw [← hok, if_neg hgc]⟩
    obtain ⟨gc, hgc2⟩ : ∃ gc, gc = givenC l ok [place] := ⟨_, rfl⟩
    rw [← hgc2] at hgc HV ⊢
    have dg : (gc != 0) = true := by rw [bne_iff_ne]; exact hgc
    clear hgc hgc2 hok
    go_wp2_with fail
    go_returns
    exact ⟨none, 0, by rw [HV.out]; rfl, by rw [HV.out]; exact Nat.le_refl _, by rw [HV.out]; exact Kd.C_nil _ _, HB2.out⟩
  obtain ⟨i, hpi, hil, hx⟩ := given_post hgc
  have HV : Aside0 (forgetF l place oid = (l.set i ⟨(postA l place).f0, (postA l place).f1, withoutL (postA l place).f2 oid⟩, 0)) := ⟨by unfold forgetF; rw [← hok, if_pos hgc, hpi]; rfl⟩
  obtain ⟨x, hxe⟩ : ∃ x, x = postA l place := ⟨_, rfl⟩
  rw [← hxe] at hx HV
  clear hxe
  subst hpi
  rw [hgc]
  have HX := Aside0.mk hx
  clear hgc hok hx
  go_wp2_with fail
  refine (rcopy_any A l.length c l w2 rfl (Kd.C_below HR.out HB2.out) hc HS.out).mono ?_
  rintro e w3 ⟨v, rfl, hRR, hB⟩
  obtain ⟨g, cap, rfl, hO, hcap, hbg, _⟩ := ownr_of hRR (by omega)
  have HO3 := Aside0.mk hO
  have HBG : Aside0 (w.heap.size ≤ g) := ⟨Nat.le_trans HB2.out.size hbg⟩
  have HB3 := Aside0.mk (below_step HB2.out hB)
  have HWS : Aside0 (w2.heap.size ≤ w3.heap.size) := ⟨hB.size⟩
  clear hRR hO hbg hB
  obtain ⟨A1, c1, A2, c2, q0, q1, q2, f0, f1, f2, r1, r2, hc1, hc2⟩ := HO3.out.cells HX.out
  have HR2 := Aside0.mk r2
  have i0 : (0 : Int) ≤ (i : Int) := by omega
  have i1 : (i : Int) < (l.length : Int) := by omega
  clear r1 r2
  go_wp2_with fail
  have hs2 : x.f2.length ≤ 1000000000000 := (HS.out.2 x (List.mem_of_getElem? HX.out)).2
  refine (rwithout_any A2 x.f2.length c2 x.f2 oid w3 rfl (Kd.R_reads' HR2.out).2.2 hc2 hs2).mono ?_
  rintro e w4 ⟨v, rfl, hF, hB⟩
  obtain ⟨U, cu, rfl⟩ := Kd.R_slice hF
  have HO4 := Aside0.mk (HO3.out.below hB)
  have HB4 := Aside0.mk (below_step HB3.out hB)
  have hO5 := HO4.out.put2 HX.out HWS.out hF
  obtain ⟨l2, hl2⟩ : ∃ l2, l2 = l.set i ⟨x.f0, x.f1, withoutL x.f2 oid⟩ := ⟨_, rfl⟩
  rw [← hl2] at hO5 HV
  have hL : l2.length = l.length := by rw [hl2, List.length_set]
  have HB5 : Aside0 (Below w.heap.size w (w4.setCell ⟨g, i * 3 + 2, none⟩ (.slice U (withoutL x.f2 oid).length cu))) := ⟨below_set HB4.out HBG.out⟩
  have HC5 := Aside0.mk hO5.C
  have HL := Aside0.mk hL
  clear hF hB q0 q1 q2 f0 f1 f2 HR2 hl2 hO5 hL
  obtain ⟨A1', c1', A2', c2', q0, q1, q2, f0, f1, f2, r1, r2, hc1', hc2'⟩ := HO4.out.cells HX.out
  clear r1 r2
  go_wp2_with fail
  go_returns
  exact ⟨some ⟨g, 0, none⟩, cap, by rw [HV.out, HL.out]; rfl, by rw [HV.out, HL.out]; exact hcap, by rw [HV.out]; exact HC5.out, HB5.out⟩
set_option maxRecDepth 100000 in
set_option maxHeartbeats 8000000 in
theorem rmake_any (A : Option Addr) (n c : Nat) (l : List S36) (oid place : Int) (w : World) (hn : n = l.length) (hr : Kd.C k36 w A l.length l) (hc : n ≤ c) (hl : Short l) :
    Calls Try.prog 25 #[.slice A n c, .int .i64 oid, .int .i64 place] w fun e w' => ∃ A2 c2, e = .returned (.tuple #[.slice A2 (makeF l oid place).1.length c2, .int .i64 (makeF l oid place).2]) ∧ (makeF l oid place).1.length ≤ c2 ∧ Kd.C k36 w' A2 (makeF l oid place).1.length (makeF l oid place).1 ∧ Below w.heap.size w w' := by
  subst hn
  have HR := Aside0.mk hr
  have HS := Aside0.mk hl
  have hl6 := hl.1
  clear hr hl
  go_enter Try.func25, Try.ntmps25
  go_wp2_with fail
  refine (rasked_any A l.length c l place oid w rfl HR.out hc HS.out).mono ?_
  rintro e w2 ⟨rfl, hB⟩
  have HB2 := Aside0.mk hB
  clear hB
  obtain ⟨ok, hok⟩ : ∃ ok, ok = decide (1 ≤ oid) := ⟨_, rfl⟩
  rw [← hok]
  by_cases hgc : givenC l ok [place] = 0
  rotate_left
  · have HV : Aside0 (makeF l oid place = ([], givenC l ok [place])) := ⟨by unfold makeF; rw [← hok, if_neg hgc]⟩
    obtain ⟨gc, hgc2⟩ : ∃ gc, gc = givenC l ok [place] := ⟨_, rfl⟩
    rw [← hgc2] at hgc HV ⊢
    have dg : (gc != 0) = true := by rw [bne_iff_ne]; exact hgc
    clear hgc hgc2 hok
    go_wp2_with fail
    go_returns
    exact ⟨none, 0, by rw [HV.out]; rfl, by rw [HV.out]; exact Nat.le_refl _, by rw [HV.out]; exact Kd.C_nil _ _, HB2.out⟩
  obtain ⟨i, hpi, hil, hx⟩ := given_post hgc
  have HV : Aside0 (makeF l oid place = if ((l.any fun p => atB p.f1 oid || atB p.f2 oid) || !(postA l place).f0) = true then ([], 1) else if 4000 ≤ (postA l place).f1.length then ([], 2) else (l.set i ⟨(postA l place).f0, putL (postA l place).f1 ⟨oid, place, 0⟩, (postA l place).f2⟩, 0)) := ⟨by unfold makeF; rw [← hok, if_pos hgc, hpi]; rfl⟩
  have HVT := Aside0.mk (check_vat (given_in hgc).2.1)
  obtain ⟨x, hxe⟩ : ∃ x, x = postA l place := ⟨_, rfl⟩
  rw [← hxe] at hx HV
  clear hxe
  subst hpi
  rw [hgc]
  have HX := Aside0.mk hx
  have i0 : (0 : Int) ≤ (i : Int) := by omega
  have i1 : (i : Int) < (l.length : Int) := by omega
  clear hgc hok hx
  obtain ⟨ad, x2, A1, c1, A2, c2, rfl, hx2, p0, p1, p2, l1, g1, l2, g2⟩ := post_at (Kd.C_below HR.out HB2.out) i hil
  rw [HX.out] at hx2
  obtain rfl := Option.some.inj hx2
  obtain ⟨u, hu⟩ : ∃ u, u = x.f0 := ⟨_, rfl⟩
  rw [← hu] at p0 HV
  have HU := Aside0.mk hu
  clear hx2 g1 g2 l1 l2 hu p2
  cases u with
  | false =>
    have HV2 : Aside0 (makeF l oid i = ([], 1)) := ⟨by rw [HV.out]; simp⟩
    clear HV
    go_wp2_with fail
    go_returns
    exact ⟨none, 0, by rw [HV2.out]; rfl, by rw [HV2.out]; exact Nat.le_refl _, by rw [HV2.out]; exact Kd.C_nil _ _, HB2.out⟩
  | true =>
  have HV2 : Aside0 (makeF l oid i = if (l.any fun p => atB p.f1 oid || atB p.f2 oid) = true then ([], 1) else if 4000 ≤ x.f1.length then ([], 2) else (l.set i ⟨x.f0, putL x.f1 ⟨oid, i, 0⟩, x.f2⟩, 0)) := ⟨by rw [HV.out, Bool.not_true, Bool.or_false, ← HU.out]⟩
  clear HV
  go_wp2_with fail
  go_loopw [9] (fun u9 wr => ∃ k : Nat, u9 = .int .i64 (k : Int) ∧ k ≤ l.length ∧ Aside0 ((l.any fun p => atB p.f1 oid || atB p.f2 oid) = ((l.drop k).any fun p => atB p.f1 oid || atB p.f2 oid)) ∧ Aside0 (Below w2.heap.size w2 wr)) (fun u9 _ => l.length - (intOf u9).toNat)
  case atStart => exact ⟨0, rfl, Nat.zero_le _, ⟨rfl⟩, ⟨Below.refl _ _⟩⟩
  case round =>
    obtain ⟨k, rfl, hk, HE, HBR⟩ := hrel
    have HBS := Aside0.mk (below_step HB2.out HBR.out)
    clear p0 p1
    by_cases hlt : k < l.length
    · have dk : decide (k < l.length) = true := decide_eq_true hlt
      have k0 : (0 : Int) ≤ (k : Int) := by omega
      have k1 : (k : Int) < (l.length : Int) := by omega
      obtain ⟨ad2, y, B1, d1, B2, d2, hade, hy, q0, q1, q2, m1, h1, m2, h2⟩ := post_at (Kd.C_below HR.out HBS.out) k hlt
      obtain rfl := Option.some.inj hade
      have HY := Aside0.mk hy
      have hok2 := HVT.out.ok y (List.mem_of_getElem? hy)
      have HA1 := Aside0.mk (rat_look hok2.has.sorted oid)
      have HA2 := Aside0.mk (rat_look hok2.hints.sorted oid)
      have HSY := Aside0.mk (HS.out.2 y (List.mem_of_getElem? hy))
      have H1 := Aside0.mk h1
      have H2 := Aside0.mk h2
      have HST : Aside0 ((l.any fun p => atB p.f1 oid || atB p.f2 oid) = ((atB y.f1 oid || atB y.f2 oid) || ((l.drop (k + 1)).any fun p => atB p.f1 oid || atB p.f2 oid))) := ⟨by
        obtain ⟨e1, e2⟩ := List.getElem?_eq_some_iff.1 hy
        rw [HE.out, List.drop_eq_getElem_cons e1, e2, List.any_cons]⟩
      clear hy h1 h2 hok2 q0
      go_wp2_with fail
      refine (rat_any B1 y.f1.length d1 y.f1 oid wr rfl H1.out m1 HSY.out.1).mono ?_
      rintro e w3 ⟨rfl, hB⟩
      have HB3 := Aside0.mk (below_step HBR.out hB)
      have H23 := Aside0.mk (Kd.C_below H2.out hB)
      replace q2 := cell_below hB q2
      clear hB q1
      rcases HA1.out with ⟨e1, e2, _⟩ | ⟨q, g, e1, _, _, e2, _⟩
      · rw [e1]
        rw [e2] at HST
        clear e1 e2 HA1
        go_wp2_with fail
        refine (rat_any B2 y.f2.length d2 y.f2 oid w3 rfl H23.out m2 HSY.out.2).mono ?_
        rintro e w4 ⟨rfl, hB⟩
        have HB4 := Aside0.mk (below_step HB3.out hB)
        clear hB q2
        rcases HA2.out with ⟨e1, e2, _⟩ | ⟨q, g, e1, _, _, e2, _⟩
        · rw [e1]
          rw [e2] at HST
          clear e1 e2 HA2
          go_wp2_with fail
          go_roundw
          case measure => first | (simp [intOf]; done) | (simp [intOf]; omega)
          case rel => exact ⟨k + 1, by go_num, by omega, ⟨by rw [HST.out]; rfl⟩, HB4⟩
        · rw [e1]
          rw [e2] at HST
          have dq : decide ((0 : Int) ≤ (q : Int)) = true := decide_eq_true (by omega)
          have HV3 : Aside0 (makeF l oid i = ([], 1)) := ⟨by rw [HV2.out, HST.out]; rfl⟩
          clear e1 e2 HA2
          go_wp2_with fail
          go_returns
          exact ⟨none, 0, by rw [HV3.out]; rfl, by rw [HV3.out]; exact Nat.le_refl _, by rw [HV3.out]; exact Kd.C_nil _ _, below_step HB2.out HB4.out⟩
      · rw [e1]
        rw [e2] at HST
        have dq : decide ((0 : Int) ≤ (q : Int)) = true := decide_eq_true (by omega)
        have HV3 : Aside0 (makeF l oid i = ([], 1)) := ⟨by rw [HV2.out, HST.out]; rfl⟩
        clear e1 e2 HA1 HA2
        go_wp2_with fail
        go_returns
        exact ⟨none, 0, by rw [HV3.out]; rfl, by rw [HV3.out]; exact Nat.le_refl _, by rw [HV3.out]; exact Kd.C_nil _ _, below_step HB2.out HB3.out⟩
    · have dk : decide (k < l.length) = false := decide_eq_false hlt
      have HV3 : Aside0 (makeF l oid i = if 4000 ≤ x.f1.length then ([], 2) else (l.set i ⟨x.f0, putL x.f1 ⟨oid, i, 0⟩, x.f2⟩, 0)) := ⟨by rw [HV2.out, HE.out, List.drop_of_length_le (by omega)]; rfl⟩
      clear HV2 HE
      obtain ⟨ad2, x2, B1, d1, B2, d2, hade, hx2, p0, p1, p2, _, _, _, _⟩ := post_at (Kd.C_below HR.out HBS.out) i hil
      obtain rfl := Option.some.inj hade
      rw [HX.out] at hx2
      obtain rfl := Option.some.inj hx2
      obtain ⟨w3, hw3⟩ : ∃ W, W = wr := ⟨_, rfl⟩
      rw [← hw3] at HBS p0 p1 p2 ⊢
      clear hx2 hw3 HBR hlt hk
      have HB3 := HBS
      by_cases g1 : 4000 ≤ x.f1.length
      · have HV4 : Aside0 (makeF l oid i = ([], 2)) := ⟨by rw [HV3.out, if_pos g1]⟩
        have dg : decide ((4000 : Int) ≤ (x.f1.length : Int)) = true := decide_eq_true (by omega)
        clear HV3
        go_wp2_with fail
        go_returns
        exact ⟨none, 0, by rw [HV4.out]; rfl, by rw [HV4.out]; exact Nat.le_refl _, by rw [HV4.out]; exact Kd.C_nil _ _, HBS.out⟩
      have dg : decide ((4000 : Int) ≤ (x.f1.length : Int)) = false := decide_eq_false (by omega)
      have HV4 : Aside0 (makeF l oid i = (l.set i ⟨x.f0, putL x.f1 ⟨oid, i, 0⟩, x.f2⟩, 0)) := ⟨by rw [HV3.out, if_neg g1]⟩
      clear HV3 g1
      go_wp2_with fail
      refine (rcopy_any (some ad) l.length c l w3 rfl (Kd.C_below HR.out HB3.out) hc HS.out).mono ?_
      rintro e w4 ⟨v, rfl, hRR, hB⟩
      obtain ⟨g, cap, rfl, hO, hcap, hbg, _⟩ := ownr_of hRR (by omega)
      have HO4 := Aside0.mk hO
      have HBG : Aside0 (w.heap.size ≤ g) := ⟨Nat.le_trans HB3.out.size hbg⟩
      have HB4 := Aside0.mk (below_step HB3.out hB)
      have HWS : Aside0 (w3.heap.size ≤ w4.heap.size) := ⟨hB.size⟩
      clear hRR hO hbg hB
      clear p0 p1 p2
      obtain ⟨E1, e1, E2, e2, q0, q1, q2, f0, f1, f2, r1, r2, hc1, hc2⟩ := HO4.out.cells HX.out
      have HR1 := Aside0.mk r1
      have hs1 : x.f1.length ≤ 1000000000000 := (HS.out.2 x (List.mem_of_getElem? HX.out)).1
      have HSX := Aside0.mk (HVT.out.ok x (List.mem_of_getElem? HX.out)).has.sorted
      clear r1 r2
      go_wp2_with fail
      refine (rwith_any E1 x.f1.length e1 x.f1 ⟨oid, i, 0⟩ w4 rfl (Kd.R_reads' HR1.out).2.2 hc1 hs1 HSX.out).mono ?_
      rintro e w5 ⟨v, rfl, hF, hB⟩
      obtain ⟨U, cu, rfl⟩ := Kd.R_slice hF
      have HO5 := Aside0.mk (HO4.out.below hB)
      have HB5 := Aside0.mk (below_step HB4.out hB)
      have hO6 := HO5.out.put1 HX.out HWS.out hF
      obtain ⟨l2, hl2⟩ : ∃ l2, l2 = l.set i ⟨x.f0, putL x.f1 ⟨oid, i, 0⟩, x.f2⟩ := ⟨_, rfl⟩
      rw [← hl2] at hO6 HV4
      have hL : l2.length = l.length := by rw [hl2, List.length_set]
      have HB6 : Aside0 (Below w.heap.size w (w5.setCell ⟨g, i * 3 + 1, none⟩ (.slice U (putL x.f1 ⟨oid, i, 0⟩).length cu))) := ⟨below_set HB5.out HBG.out⟩
      have HC6 := Aside0.mk hO6.C
      have HL := Aside0.mk hL
      clear hF hB q0 q1 q2 f0 f1 f2 HR1 hl2 hO6 hL
      obtain ⟨A1', c1', A2', c2', q0, q1, q2, f0, f1, f2, r1, r2, hc1', hc2'⟩ := HO5.out.cells HX.out
      clear r1 r2
      go_wp2_with fail
      go_returns
      exact ⟨some ⟨g, 0, none⟩, cap, by rw [HV4.out, HL.out]; rfl, by rw [HV4.out, HL.out]; exact hcap, by rw [HV4.out]; exact HC6.out, HB6.out⟩
set_option maxRecDepth 100000 in
set_option maxHeartbeats 8000000 in
theorem rwhere_any (A : Option Addr) (n c : Nat) (l : List S36) (oid : Int) (w : World) (hn : n = l.length) (hr : Kd.C k36 w A l.length l) (hc : n ≤ c) (hl : Short l) :
    Calls Try.prog 33 #[.slice A n c, .int .i64 oid] w fun e w' => e = .returned (.tuple #[hintV (whereF l oid).1, .int .i64 (whereF l oid).2]) ∧ Below w.heap.size w w' := by
  subst hn
  have HR := Aside0.mk hr
  have HS := Aside0.mk hl
  clear hr hl
  have hu := Try.underlying31
  have hwf : whereF l oid = if givenC l (decide (1 ≤ oid)) [0] = 0 then (if (whereL l oid).2 = true then ((whereL l oid).1, 0) else (⟨0, 0, 0⟩, 3)) else (⟨0, 0, 0⟩, givenC l (decide (1 ≤ oid)) [0]) := by
    have : givenC l (decide (1 ≤ oid)) [] = givenC l (decide (1 ≤ oid)) [0] := by
      unfold givenC
      by_cases c : checkF l = true
      · have := ((check_iff l).1 c).one
        rw [if_pos c, if_pos c, List.any_nil, List.any_cons, List.any_nil]
        unfold offP
        rw [decide_eq_false (by omega : ¬ (0 : Int) < 0), decide_eq_false (by omega : ¬ (l.length : Int) ≤ 0)]
        rfl
      · rw [if_neg c, if_neg c]
    unfold whereF
    rw [this]
  have HWF := Aside0.mk hwf
  clear hwf
  go_enter Try.func33, Try.ntmps33
  go_wp2_with fail
  obtain ⟨gr, hgr⟩ : ∃ g, g = w.heap.size := ⟨_, rfl⟩
  obtain ⟨w1, hw1⟩ : ∃ w1, w1 = w.alloc (Obj.cells #[Value.int IntKind.i64 0, Value.int IntKind.i64 0, Value.int IntKind.i64 0] 31) := ⟨_, rfl⟩
  rw [← hw1, ← hgr]
  have HB1 : Aside0 (Below w.heap.size w w1) := ⟨by rw [hw1]; exact below_alloc (Below.refl _ _) _⟩
  have HQ1 : Aside0 (w1.heap[gr]? = some (.cells #[.int .i64 0, .int .i64 0, .int .i64 0] 31 (0, 0))) := ⟨by rw [hw1, hgr]; exact heap_alloc_new _ _⟩
  have HG : Aside0 (w.heap.size ≤ gr) := ⟨by omega⟩
  clear hw1 hgr
  refine (rasked_any A l.length c l 0 oid w1 rfl (Kd.C_below HR.out HB1.out) hc HS.out).mono ?_
  rintro e w2 ⟨rfl, hB⟩
  have HB2 := Aside0.mk (below_step HB1.out hB)
  have HQ2 := Aside0.mk (blk_below HQ1.out hB)
  clear hB HB1 HQ1
  obtain ⟨ok, hok⟩ : ∃ ok, ok = decide (1 ≤ oid) := ⟨_, rfl⟩
  rw [← hok] at HWF ⊢
  by_cases hgc : givenC l ok [0] = 0
  rotate_left
  · have HV : Aside0 (whereF l oid = (⟨0, 0, 0⟩, givenC l ok [0])) := ⟨by rw [HWF.out, if_neg hgc]⟩
    obtain ⟨gc, hgc2⟩ : ∃ gc, gc = givenC l ok [0] := ⟨_, rfl⟩
    rw [← hgc2] at hgc HV ⊢
    have dg : (gc != 0) = true := by rw [bne_iff_ne]; exact hgc
    clear hgc hgc2 hok HWF
    obtain ⟨q0, q1, q2, f0, f1, f2⟩ := blk3 HQ2.out
    go_wp2_with fail
    refine bodyPost_ret (results_ct rfl _ _ gr 31 #[.int .i64 0, .int .i64 0, .int .i64 0] (0, 0) _ rfl (blk_store3 HQ2.out _ _ _) Try.underlying31 rfl (by kernel_rfl)) rfl ?_
    exact ⟨by rw [HV.out]; rfl, below_store3 HB2.out HG.out _ _ _⟩
  have HV : Aside0 (whereF l oid = if (whereL l oid).2 = true then ((whereL l oid).1, 0) else (⟨0, 0, 0⟩, 3)) := ⟨by rw [HWF.out, if_pos hgc]⟩
  have HCS := Aside0.mk (rhome_cases (check_vat (given_in hgc).2.1) oid)
  rw [hgc]
  clear hgc hok HWF
  go_wp2_with fail
  refine (rhome_any A l.length c l oid w2 rfl (Kd.C_below HR.out HB2.out) hc HS.out).mono ?_
  rintro e w3 ⟨rfl, hB⟩
  have HB3 := Aside0.mk (below_step HB2.out hB)
  have HQ3 := Aside0.mk (blk_below HQ2.out hB)
  clear hB HB2 HQ2
  obtain ⟨q0, q1, q2, f0, f1, f2⟩ := blk3 HQ3.out
  rcases HCS.out with ⟨e1, e2⟩ | ⟨i, x, q, g, e1, hil, hx, e3, hq, hg, e4⟩
  · rw [e1]
    have HV2 : Aside0 (whereF l oid = (⟨0, 0, 0⟩, 3)) := ⟨by rw [HV.out, e2]; rfl⟩
    clear e1 e2 HCS HV
    go_wp2_with fail
    refine bodyPost_ret (results_ct rfl _ _ gr 31 #[.int .i64 0, .int .i64 0, .int .i64 0] (0, 0) _ rfl (blk_store3 HQ3.out _ _ _) Try.underlying31 rfl (by kernel_rfl)) rfl ?_
    exact ⟨by rw [HV2.out]; rfl, below_store3 HB3.out HG.out _ _ _⟩
  · rw [e1]
    have HV2 : Aside0 (whereF l oid = (g, 0)) := ⟨by rw [HV.out, e4]; rfl⟩
    obtain ⟨ad, x2, A1, c1, A2, c2, rfl, hx2, p0, p1, p2, l1, g1, l2, g2⟩ := post_at HR.out i hil
    rw [hx] at hx2
    obtain rfl := Option.some.inj hx2
    obtain ⟨bd, g', rfl, hg2, r0, r1, r2⟩ := hint_at g1 q hq
    rw [hg] at hg2
    obtain rfl := Option.some.inj hg2
    have G1 := Aside0.mk g1
    have hs1 := (HS.out.2 x (List.mem_of_getElem? hx)).1
    have HAT := Aside0.mk e3
    have i0 : (0 : Int) ≤ (i : Int) := by omega
    have i1 : (i : Int) < (l.length : Int) := by omega
    have j0 : (0 : Int) ≤ (q : Int) := by omega
    have j1 : (q : Int) < (x.f1.length : Int) := by omega
    have j3 : decide ((i : Int) < 0) = false := decide_eq_false (by omega)
    have HSB : Aside0 (∀ w', Below w.heap.size w w' → (w'.cell? ⟨(ad.add (i * 3)).block, (ad.add (i * 3)).off + 1, none⟩ = some (.slice (some bd) x.f1.length c1) ∧ w'.cell? (bd.add (q * 3)) = some (.int .i64 g.f0) ∧ w'.cell? ⟨(bd.add (q * 3)).block, (bd.add (q * 3)).off + 1, none⟩ = some (.int .i64 g.f1) ∧ w'.cell? ⟨(bd.add (q * 3)).block, (bd.add (q * 3)).off + 2, none⟩ = some (.int .i64 g.f2))) := ⟨fun w' hb => ⟨cell_below hb p1, cell_below hb r0, cell_below hb r1, cell_below hb r2⟩⟩
    clear e1 e3 e4 HCS HV hx hx2 hg hg2 g1 g2 l2 p0 p1 p2 r0 r1 r2
    go_upto_region 7 with fail
    clear q0 q1 q2
    go_region_held3 (fun w' => w'.cell? ⟨(ad.add (i * 3)).block, (ad.add (i * 3)).off + 1, none⟩ = some (.slice (some bd) x.f1.length c1) ∧ w'.cell? (bd.add (q * 3)) = some (.int .i64 g.f0) ∧ w'.cell? ⟨(bd.add (q * 3)).block, (bd.add (q * 3)).off + 1, none⟩ = some (.int .i64 g.f1) ∧ w'.cell? ⟨(bd.add (q * 3)).block, (bd.add (q * 3)).off + 2, none⟩ = some (.int .i64 g.f2)) (exact HSB.out _ (by repeat (first | exact HB3.out | exact HB6.out | refine below_drew ?_ | refine below_set ?_ HG.out))) (first | (go_at_call 73; refine (rat_any (some bd) x.f1.length c1 x.f1 oid _ rfl (Kd.C_below G1.out (by repeat (first | exact HB3.out | refine below_drew ?_))) l1 hs1).mono ?_; rintro e w6 ⟨rfl, hB⟩; rw [HAT.out]; have HB6 : Aside0 (Below w.heap.size w w6) := ⟨below_step (by repeat (first | exact HB3.out | refine below_drew ?_)) hB⟩; have HQ6 : Aside0 (w6.heap[gr]? = some (.cells #[.int .i64 0, .int .i64 0, .int .i64 0] 31 (0, 0))) := ⟨blk_below (by repeat (first | exact HQ3.out | refine blk_drew ?_ _ | refine blk_drewN ?_ _)) hB⟩; obtain ⟨q0, q1, q2, f0, f1, f2⟩ := blk3 HQ6.out; clear hB) | fail)
    all_goals
      go_wp2_with fail
      refine bodyPost_ret (results_ct rfl _ _ gr 31 #[.int .i64 g.f0, .int .i64 g.f1, .int .i64 g.f2] (0, 0) _ rfl (blk_store3 HQ6.out _ _ _) Try.underlying31 rfl (by kernel_rfl)) rfl ?_
      exact ⟨by rw [HV2.out]; rfl, below_store3 HB6.out HG.out _ _ _⟩
end Go.Proofs.Ytjnceoohlcchnaa.Print
