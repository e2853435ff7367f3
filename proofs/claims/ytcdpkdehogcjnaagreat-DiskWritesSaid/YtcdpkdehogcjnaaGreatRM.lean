import Derived.Test.YtcdpkdehogcjnaaGreatR0
import Derived.Test.YtcdpkdehogcjnaaGreatR6
import Derived.Test.YtcdpkdehogcjnaaGreatR8
set_option linter.unusedVariables false
set_option linter.unusedSimpArgs false
namespace Go.Proofs.YtcdpkdehogcjnaaGreat.Print
open Go.RowKit Go.Proofs.YtcdpkdehogcjnaaGreatW.PrintWords Go.Proofs.YtcdpkdehogcjnaaGreatW.PrintLast Go.Proofs.YtcdpkdehogcjnaaGreatW.PrintMore
attribute [local go_sem] max2_int min2_int max_two min_two max_three min_three max_four min_four
mutual
def berylref20_writes.j0 : Nat → List Int → List Int → Bool → Int → Int → List Int → List (S40) → Option ((List (S42)) × Int)
 | 0, _, _, _, _, _, _, _ => none
 | k + 1, x0, x8, x30, x239000, x239001, x239002, x239003 => if x30 = true then (some (([] : List (S42)), 2)) else ((berylref20_free.f k x0 x239000 x239001 x239002 x239003).bind fun t244 => (berylref20_writes.l0 k x8 t244 (wrap64 (Int.tdiv (wrap64 ((wrap64 ((x8.length : Int) + 62)) - 1)) 62)) ([] : List (S42)) 0 x239000 x239001 x239002 x239003))
def berylref20_writes.l0 : Nat → List Int → List Int → Int → List (S42) → Int → Int → Int → List Int → List (S40) → Option ((List (S42)) × Int)
 | 0, _, _, _, _, _, _, _, _, _ => none
 | k + 1, x8, x9, x10, x11, x12, x239000, x239001, x239002, x239003 => if x12 < x10 then (if x12 < (wrap64 (x10 - 1)) then (if 0 ≤ (wrap64 (x12 + 1)) then (if (wrap64 (x12 + 1)) < (x9.length : Int) then ((berylref20_putWord.f ([] : List Int) (rd x9 (wrap64 (x12 + 1)))).bind fun t248 => (if 0 ≤ (wrap64 (x12 * 62)) then (if (wrap64 (x12 * 62)) ≤ (mn (wrap64 ((wrap64 (x12 + 1)) * 62)) (x8.length : Int)) then (if (mn (wrap64 ((wrap64 (x12 + 1)) * 62)) (x8.length : Int)) ≤ (x8.length : Int) then ((some ((x8.take ((mn (wrap64 ((wrap64 (x12 + 1)) * 62)) (x8.length : Int)) : Int).toNat).drop ((wrap64 (x12 * 62)) : Int).toNat : List Int)).bind fun y251 => (if t248.length + y251.length < 140737488355328 then ((some (t248 ++ y251 : List Int)).bind fun y255 => (if 0 ≤ (wrap64 (64 - (y255.length : Int))) then (if y255.length + (wrap64 (64 - (y255.length : Int)) : Int).toNat < 140737488355328 then (if 0 ≤ x12 then (if x12 < (x9.length : Int) then (if x11.length < 4398046511104 then (berylref20_writes.l0 k x8 x9 x10 (x11 ++ [(⟨rd x9 x12, (y255 ++ List.replicate (wrap64 (64 - (y255.length : Int)) : Int).toNat 0)⟩ : S42)]) (wrap64 (x12 + 1)) x239000 x239001 x239002 x239003) else (none)) else (none)) else (none)) else (none)) else (none))) else (none))) else (none)) else (none)) else (none))) else (none)) else (none)) else ((berylref20_putWord.f ([] : List Int) 0).bind fun t265 => (if 0 ≤ (wrap64 (x12 * 62)) then (if (wrap64 (x12 * 62)) ≤ (mn (wrap64 ((wrap64 (x12 + 1)) * 62)) (x8.length : Int)) then (if (mn (wrap64 ((wrap64 (x12 + 1)) * 62)) (x8.length : Int)) ≤ (x8.length : Int) then ((some ((x8.take ((mn (wrap64 ((wrap64 (x12 + 1)) * 62)) (x8.length : Int)) : Int).toNat).drop ((wrap64 (x12 * 62)) : Int).toNat : List Int)).bind fun y268 => (if t265.length + y268.length < 140737488355328 then ((some (t265 ++ y268 : List Int)).bind fun y272 => (if 0 ≤ (wrap64 (64 - (y272.length : Int))) then (if y272.length + (wrap64 (64 - (y272.length : Int)) : Int).toNat < 140737488355328 then (if 0 ≤ x12 then (if x12 < (x9.length : Int) then (if x11.length < 4398046511104 then (berylref20_writes.l0 k x8 x9 x10 (x11 ++ [(⟨rd x9 x12, (y272 ++ List.replicate (wrap64 (64 - (y272.length : Int)) : Int).toNat 0)⟩ : S42)]) (wrap64 (x12 + 1)) x239000 x239001 x239002 x239003) else (none)) else (none)) else (none)) else (none)) else (none))) else (none))) else (none)) else (none)) else (none)))) else ((berylref20_putWord.f ([] : List Int) x10).bind fun t282 => ((berylref20_putWord.f t282 (x8.length : Int)).bind fun t285 => (if x10 > 0 then (if 0 < (x9.length : Int) then ((berylref20_putWord.f t285 (rd x9 0)).bind fun t289 => (if t289.length + 18 < 140737488355328 then ((berylref20_putLong.f k (t289 ++ List.replicate 18 0) (wrap64 (x239001 + 1))).bind fun t295 => ((some (([] : List Int) : List Int)).bind fun y298 => (if y298.length + t295.length < 140737488355328 then ((some (y298 ++ t295 : List Int)).bind fun y301 => (if y301.length + t295.length < 140737488355328 then (if x11.length < 4398046511104 then (some ((x11 ++ [(⟨wrap64 (1 - x239000), (y301 ++ t295)⟩ : S42)]), 0)) else (none)) else (none))) else (none)))) else (none))) else (none)) else ((berylref20_putWord.f t285 0).bind fun t310 => (if t310.length + 18 < 140737488355328 then ((berylref20_putLong.f k (t310 ++ List.replicate 18 0) (wrap64 (x239001 + 1))).bind fun t316 => ((some (([] : List Int) : List Int)).bind fun y319 => (if y319.length + t316.length < 140737488355328 then ((some (y319 ++ t316 : List Int)).bind fun y322 => (if y322.length + t316.length < 140737488355328 then (if x11.length < 4398046511104 then (some ((x11 ++ [(⟨wrap64 (1 - x239000), (y322 ++ t316)⟩ : S42)]), 0)) else (none)) else (none))) else (none)))) else (none))))))
end
def berylref20_writes.f (k : Nat) (l0 : List Int) (a1_0 : Int) (a1_1 : Int) (l1_2 : List Int) (l1_3 : List (S40)) (l2 : List (S40)) : Option ((List (S42)) × Int) := (berylref20_written.f k l2).bind fun t239 => ((berylref20_blocks.f l0).bind fun t242 => ((berylref20_room.f t242).bind fun t243 => (if (t239.length : Int) > (wrap64 (62 * t243)) then (berylref20_writes.j0 k l0 t239 true a1_0 a1_1 l1_2 l1_3) else (berylref20_writes.j0 k l0 t239 (decide (a1_1 ≥ 1099511627776)) a1_0 a1_1 l1_2 l1_3))))
theorem berylref20_writes.mono_l : ∀ k, (∀ y0 y1 y2 y3 y4 y5 y6, LeO (berylref20_writes.j0 k y0 y1 y2 y3 y4 y5 y6) (berylref20_writes.j0 (k + 1) y0 y1 y2 y3 y4 y5 y6)) ∧ (∀ y0 y1 y2 y3 y4 y5 y6 y7 y8, LeO (berylref20_writes.l0 k y0 y1 y2 y3 y4 y5 y6 y7 y8) (berylref20_writes.l0 (k + 1) y0 y1 y2 y3 y4 y5 y6 y7 y8))
 | 0 => ⟨fun _ _ _ _ _ _ _ r h => by simp [berylref20_writes.j0] at h, fun _ _ _ _ _ _ _ _ _ r h => by simp [berylref20_writes.l0] at h⟩
 | k + 1 => by
  obtain ⟨ih0, ih1⟩ := berylref20_writes.mono_l k
  refine ⟨?_, ?_⟩
  ·intro y0 y1 y2 y3 y4 y5 y6
   unfold berylref20_writes.j0
   repeat' first
   | (with_reducible exact ih0 _ _ _ _ _ _ _)
   | (with_reducible exact ih1 _ _ _ _ _ _ _ _ _)
   | (with_reducible exact berylref20_free.mono _ _ _ _ _ _)
   | (with_reducible exact berylref20_putLong.mono _ _ _)
   | (with_reducible exact berylref20_written.mono _ _)
   | (with_reducible exact LeO.refl _)
   | (with_reducible exact LeO.none _)
   | (with_reducible refine LeO.ite ?_ ?_)
   | (with_reducible refine LeO.bind ?_ (fun _ => ?_))
   | exact ih0 _ _ _ _ _ _ _
   | exact ih1 _ _ _ _ _ _ _ _ _
   | exact berylref20_free.mono _ _ _ _ _ _
   | exact berylref20_putLong.mono _ _ _
   | exact berylref20_written.mono _ _
   | exact LeO.none _
   | refine LeO.ite ?_ ?_
   | refine LeO.bind ?_ (fun _ => ?_)
  ·intro y0 y1 y2 y3 y4 y5 y6 y7 y8
   unfold berylref20_writes.l0
   repeat' first
   | (with_reducible exact ih0 _ _ _ _ _ _ _)
   | (with_reducible exact ih1 _ _ _ _ _ _ _ _ _)
   | (with_reducible exact berylref20_free.mono _ _ _ _ _ _)
   | (with_reducible exact berylref20_putLong.mono _ _ _)
   | (with_reducible exact berylref20_written.mono _ _)
   | (with_reducible exact LeO.refl _)
   | (with_reducible exact LeO.none _)
   | (with_reducible refine LeO.ite ?_ ?_)
   | (with_reducible refine LeO.bind ?_ (fun _ => ?_))
   | exact ih0 _ _ _ _ _ _ _
   | exact ih1 _ _ _ _ _ _ _ _ _
   | exact berylref20_free.mono _ _ _ _ _ _
   | exact berylref20_putLong.mono _ _ _
   | exact berylref20_written.mono _ _
   | exact LeO.none _
   | refine LeO.ite ?_ ?_
   | refine LeO.bind ?_ (fun _ => ?_)
theorem berylref20_writes.mono : ∀ a0 a1 a2 a3 a4 a5 k, LeO (berylref20_writes.f k a0 a1 a2 a3 a4 a5) (berylref20_writes.f (k + 1) a0 a1 a2 a3 a4 a5) := by
 intro a0 a1 a2 a3 a4 a5 k
 obtain ⟨ih0, ih1⟩ := berylref20_writes.mono_l k
 unfold berylref20_writes.f
 repeat' first
   | (with_reducible exact ih0 _ _ _ _ _ _ _)
   | (with_reducible exact ih1 _ _ _ _ _ _ _ _ _)
   | (with_reducible exact berylref20_free.mono _ _ _ _ _ _)
   | (with_reducible exact berylref20_putLong.mono _ _ _)
   | (with_reducible exact berylref20_written.mono _ _)
   | (with_reducible exact LeO.refl _)
   | (with_reducible exact LeO.none _)
   | (with_reducible refine LeO.ite ?_ ?_)
   | (with_reducible refine LeO.bind ?_ (fun _ => ?_))
   | exact ih0 _ _ _ _ _ _ _
   | exact ih1 _ _ _ _ _ _ _ _ _
   | exact berylref20_free.mono _ _ _ _ _ _
   | exact berylref20_putLong.mono _ _ _
   | exact berylref20_written.mono _ _
   | exact LeO.none _
   | refine LeO.ite ?_ ?_
   | refine LeO.bind ?_ (fun _ => ?_)
def berylref20_writes.T25 : Bool × List (List Nat × List Nat) := (true, [([], []), ([], []), ([1], [1]), ([2], [2]), ([], []), ([], []), ([4, 5], [4, 5]), ([], []), ([6, 7, 6], [6, 7]), ([3, 8], [3, 8]), ([9], [9]), ([0, 10, 8], [0, 10]), ([11, 11, 0, 1, 2, 3, 4, 5, 6, 7, 8, 9, 10, 11], [11]), ([12, 0, 1, 2, 3, 4, 5, 6, 7, 8, 9, 10, 11, 12], [])])
def berylref20_writes.B25 : List Nat := [0, 0, 2, 6, 0, 0, 48, 0, 240, 510, 1022, 2047, 4095, 8191]
theorem berylref20_writes.tab25 : rtab .any (opsOf Tryz.f28 25) = berylref20_writes.T25 := by kernel_rfl
theorem berylref20_writes.bits25 : waitsOk berylref20_writes.T25.2 berylref20_writes.B25 = true := by kernel_rfl
set_option maxHeartbeats 8000000 in
set_option maxRecDepth 100000 in
theorem berylref20_writes.calls (k : Nat) (A0 : Option Addr) (c0 : Nat) (l0 : List Int) (a1_0 : Int) (a1_1 : Int) (A1_2 : Option Addr) (c1_2 : Nat) (l1_2 : List Int) (A1_3 : Option Addr) (c1_3 : Nat) (l1_3 : List (S40)) (A2 : Option Addr) (c2 : Nat) (l2 : List (S40)) (r1 : List (S42)) (r2 : Int) (w : World) (hr0 : Kd.C (Kd.int .u8) w A0 l0.length l0) (hc0 : l0.length ≤ c0) (hr1_2 : Kd.C (Kd.int .i64) w A1_2 l1_2.length l1_2) (hc1_2 : l1_2.length ≤ c1_2) (hr1_3 : Kd.C k40 w A1_3 l1_3.length l1_3) (hc1_3 : l1_3.length ≤ c1_3) (hr2 : Kd.C k40 w A2 l2.length l2) (hc2 : l2.length ≤ c2) (h : berylref20_writes.f k l0 a1_0 a1_1 l1_2 l1_3 l2 = some (r1, r2)) :
  Calls Tryz.prog 28 #[.slice A0 l0.length c0, .agg #[.int .i64 a1_0, .int .i64 a1_1, .slice A1_2 l1_2.length c1_2, .slice A1_3 l1_3.length c1_3], .slice A2 l2.length c2] w fun e w' => ∃ v0_ : Value, e = .returned (.tuple #[v0_, .int .i64 r2]) ∧ Kd.S k42 42 w' w.heap.size (fun _ => True) v0_ r1 ∧ Below w.heap.size w w' := by
 have hu54 := Tryz.underlying54
 have hu42 := Tryz.underlying42
 have HR0 := Aside0.mk hr0
 have HC0 := Aside0.mk hc0
 clear hr0 hc0
 have HR1_2 := Aside0.mk hr1_2
 have HC1_2 := Aside0.mk hc1_2
 clear hr1_2 hc1_2
 have HR1_3 := Aside0.mk hr1_3
 have HC1_3 := Aside0.mk hc1_3
 clear hr1_3 hc1_3
 have HR2 := Aside0.mk hr2
 have HC2 := Aside0.mk hc2
 clear hr2 hc2
 have HB := Aside0.mk (Below.refl w.heap.size w)
 have H : ((berylref20_written.f k l2).bind fun t239 => ((berylref20_blocks.f l0).bind fun t242 => ((berylref20_room.f t242).bind fun t243 => (if (t239.length : Int) > (wrap64 (62 * t243)) then (berylref20_writes.j0 k l0 t239 true a1_0 a1_1 l1_2 l1_3) else (berylref20_writes.j0 k l0 t239 (decide (a1_1 ≥ 1099511627776)) a1_0 a1_1 l1_2 l1_3))))) = some (r1, r2) := h
 clear h
 replace H := Option.bind_eq_some_iff.mp H
 obtain ⟨t239, A40, H⟩ := H
 have A4 := Aside0.mk A40
 clear A40
 have HC5 := Aside0.mk H
 clear H
 go_enter Tryz.func28, Tryz.ntmps28
 go_upto_region 2 with (first | ((with_reducible refine gate_dst (N := 4) rfl ?_); refine box_event ?hg (N := 4) ?hd (cs := #[.int .i64 a1_0, .int .i64 a1_1, .slice A1_2 l1_2.length c1_2, .slice A1_3 l1_3.length c1_3]) (t := 54) ?hr ?_; (case hd => rfl); (case hg => rfl); (case hr => first | (go_simp; done) | (go_simp; rfl)); intro gb238 hg w6 hbox hb; have n0_ := Aside0.mk (below_step bQ hb); have n1_ := Aside0.mk (hbox); have n2_ := Aside0.mk ((by rw [hg]; exact (below_size bQ) : w.heap.size ≤ gb238)); have n3_ := Aside0.mk ((by rw [hg]; exact (below_size bQ) : w.heap.size ≤ gb238)); clear HB; have HB := n0_; have BK238 := n1_; have GW238 := n2_; have GE238 := n3_; clear n0_ n1_ n2_ n3_; clear hb hbox hg) | ((with_reducible refine gate_callee (f := 50) rfl ?_); refine goesL_ (some 18) rfl rfl Tryz.func50 (by kernel_rfl) rfl #[.slice A2 l2.length c2] rfl aQ ?_; (with_reducible refine (berylref20_written.calls k _ _ l2 t239 _ ?side1 ?side2 A4.out).mono ?_); (case side1 => exact cQ (Kd.C_below HR2.out HB.out)); (case side2 => exact HC2.out); rintro e w7 ⟨v240, rfl, ho0, hb⟩; refine ⟨_, rfl, ?_⟩; have n0_ := Aside0.mk (Kd.R_lower ho0 (below_size bQ)); have n1_ := Aside0.mk (blk_below (g := gb238) (o := .cells #[.int .i64 a1_0, .int .i64 a1_1, .slice A1_2 l1_2.length c1_2, .slice A1_3 l1_3.length c1_3] 54 (0, 0)) (kQ BK238.out) hb); have n2_ := Aside0.mk (below_step bQ hb); clear BK238; clear HB; have HO241 := n0_; have BK238 := n1_; have HB := n2_; clear n0_ n1_ n2_; (try clear hb); (try clear hb2); (try clear hk); (try clear hi); (try clear ho0)))
 (try simp only [Act.put, List.setIfInBounds_toArray, List.set_cons_zero, List.set_cons_succ])
 go_cut [30] (fun v30 wc => ∃ (kq : Nat) (x30_4 : Bool), v30 = .bool x30_4 ∧ Aside0 (berylref20_writes.j0 kq l0 t239 x30_4 a1_0 a1_1 l1_2 l1_3 = some (r1, r2)) ∧ Aside0 (kq ≤ k) ∧ Aside0 (Kd.R (Kd.int .u8) 5 wc w.heap.size (fun _ => True) v240 t239) ∧ Aside0 (wc.heap[gb238]? = some (.cells #[.int .i64 a1_0, .int .i64 a1_1, (.slice A1_2 l1_2.length c1_2), (.slice A1_3 l1_3.length c1_3)] 54 (0, 0))) ∧ Aside0 (Below w.heap.size w wc))
 case first =>
  have H := HC5.out
  clear HC5
  replace H := Option.bind_eq_some_iff.mp H
  obtain ⟨t242, A80, H⟩ := H
  have A8 := Aside0.mk A80
  clear A80
  replace H := Option.bind_eq_some_iff.mp H
  obtain ⟨t243, A90, H⟩ := H
  have A9 := Aside0.mk A90
  clear A90
  by_cases c10 : (t239.length : Int) > (wrap64 (62 * t243))
  ·rw [if_pos c10] at H
   have c10b0 : decide ((wrap64 (62 * t243)) < (t239.length : Int)) = true := decide_eq_true c10
   clear c10
   (first | rw [c10b0] | (simp only [i64_w, i32_w]; rw [c10b0]) | skip)
   have H' := Aside0.mk H
   clear H
   obtain ⟨Ao11, co11, eo11⟩ := Kd.R_slice HO241.out
   subst eo11
   go_wp2_with (first | ((with_reducible refine gate_callee (f := 40) rfl ?_); refine goesL_ (some 22) rfl rfl Tryz.func40 (by kernel_rfl) rfl #[.slice A0 l0.length c0] rfl aQ ?_; (with_reducible refine (berylref20_blocks.calls _ _ l0 t242 _ ?side1 ?side2 A8.out).mono ?_); (case side1 => exact cQ (Kd.C_below HR0.out HB.out)); (case side2 => exact HC0.out); rintro e w' ⟨rfl, ⟨nd, rfl⟩⟩; refine ⟨_, rfl, ?_⟩) | ((with_reducible refine gate_callee (f := 51) rfl ?_); refine goesL_ (some 23) rfl rfl Tryz.func51 (by kernel_rfl) rfl #[.int .i64 t242] rfl aQ ?_; (with_reducible refine (berylref20_room.calls t242 t243 _ A9.out).mono ?_); rintro e w' ⟨rfl, ⟨nd, rfl⟩⟩; refine ⟨_, rfl, ?_⟩))
   go_meet
   case rel => exact ⟨_, (true), sQ, H', ⟨by first | omega | exact Nat.le_refl _⟩, ⟨by (with_reducible repeat (first | apply Kd.R_alloc | apply Kd.R_drewN | apply Kd.R_drew)); exact HO241.out⟩, ⟨by (with_reducible repeat (first | refine blk_drewN ?_ _ | refine blk_drew ?_ | refine blk_alloc ?_ _)); exact BK238.out⟩, ⟨bQ⟩⟩
  ·rw [if_neg c10] at H
   have c10b0 : decide ((wrap64 (62 * t243)) < (t239.length : Int)) = false := decide_eq_false c10
   clear c10
   (first | rw [c10b0] | (simp only [i64_w, i32_w]; rw [c10b0]) | skip)
   have H' := Aside0.mk H
   clear H
   obtain ⟨Ao12, co12, eo12⟩ := Kd.R_slice HO241.out
   subst eo12
   go_wp2_with (first | ((with_reducible refine gate_callee (f := 40) rfl ?_); refine goesL_ (some 22) rfl rfl Tryz.func40 (by kernel_rfl) rfl #[.slice A0 l0.length c0] rfl aQ ?_; (with_reducible refine (berylref20_blocks.calls _ _ l0 t242 _ ?side1 ?side2 A8.out).mono ?_); (case side1 => exact cQ (Kd.C_below HR0.out HB.out)); (case side2 => exact HC0.out); rintro e w' ⟨rfl, ⟨nd, rfl⟩⟩; refine ⟨_, rfl, ?_⟩) | ((with_reducible refine gate_callee (f := 51) rfl ?_); refine goesL_ (some 23) rfl rfl Tryz.func51 (by kernel_rfl) rfl #[.int .i64 t242] rfl aQ ?_; (with_reducible refine (berylref20_room.calls t242 t243 _ A9.out).mono ?_); rintro e w' ⟨rfl, ⟨nd, rfl⟩⟩; refine ⟨_, rfl, ?_⟩; have hcz13_0 : w7.cell? ⟨gb238, 0, none⟩ = some (.int .i64 a1_0) := (blk_cell BK238.out 0).trans rfl; have hcz13_1 : w7.cell? ⟨gb238, 1, none⟩ = some (.int .i64 a1_1) := (blk_cell BK238.out 1).trans rfl; have hcz13_2 : w7.cell? ⟨gb238, 2, none⟩ = some (.slice A1_2 l1_2.length c1_2) := (blk_cell BK238.out 2).trans rfl; have hcz13_3 : w7.cell? ⟨gb238, 3, none⟩ = some (.slice A1_3 l1_3.length c1_3) := (blk_cell BK238.out 3).trans rfl; have hfz13_0 := blk_frozen BK238.out 0; have hfz13_1 := blk_frozen BK238.out 1; have hfz13_2 := blk_frozen BK238.out 2; have hfz13_3 := blk_frozen BK238.out 3))
   go_meet
   case rel => exact ⟨_, (decide (a1_1 ≥ 1099511627776)), sQ, H', ⟨by first | omega | exact Nat.le_refl _⟩, ⟨by (with_reducible repeat (first | apply Kd.R_alloc | apply Kd.R_drewN | apply Kd.R_drew)); exact HO241.out⟩, ⟨by (with_reducible repeat (first | refine blk_drewN ?_ _ | refine blk_drew ?_ | refine blk_alloc ?_ _)); exact BK238.out⟩, ⟨bQ⟩⟩
 case rest =>
  clear HC5
  try clear c1
  try clear c2
  try clear p2
  try clear c4
  try clear c5
  try clear p6
  try clear c10
  try clear c10b0
  try clear hcz13_0
  try clear hcz13_1
  try clear hcz13_2
  try clear hcz13_3
  try clear hfz13_0
  try clear hfz13_1
  try clear hfz13_2
  try clear hfz13_3
  obtain ⟨kq, x30_4, rfl, HA, HJ4, HO_8, BK238, HB⟩ := hcut
  cases kq with
  | zero => exact absurd HA.out (by simp [berylref20_writes.j0])
  | succ kj4 =>
   have H := HA.out
   clear HA
   simp only [berylref20_writes.j0] at H
   by_cases c14 : x30_4 = true
   ·subst c14
    rw [if_pos rfl] at H
    simp only [Option.some.injEq, Prod.mk.injEq] at H
    obtain ⟨rfl, rfl⟩ := H
    go_wp2
    go_ret2
    exact ⟨_, eQ, by first | exact Kd.S_nil _ _ _ _ _ | exact Kd.N_nil _ _ _ _ _ | exact Kd.V_nil _ _ _ _ _ | exact Kd.Q_nil _ _ _ _ _ | exact Kd.R_nil _ _ _ _ _, bQ⟩
   ·replace c14 := Bool.eq_false_iff.mpr c14
    subst c14
    rw [if_neg (show ¬ (false = true) by decide)] at H
    replace H := Option.bind_eq_some_iff.mp H
    obtain ⟨t244, A150, H⟩ := H
    have A15 := Aside0.mk A150
    clear A150
    have H' := Aside0.mk H
    clear H
    have hcz16_0 : wc.cell? ⟨gb238, 0, none⟩ = some (.int .i64 a1_0) := (blk_cell BK238.out 0).trans rfl
    have hcz16_1 : wc.cell? ⟨gb238, 1, none⟩ = some (.int .i64 a1_1) := (blk_cell BK238.out 1).trans rfl
    have hcz16_2 : wc.cell? ⟨gb238, 2, none⟩ = some (.slice A1_2 l1_2.length c1_2) := (blk_cell BK238.out 2).trans rfl
    have hcz16_3 : wc.cell? ⟨gb238, 3, none⟩ = some (.slice A1_3 l1_3.length c1_3) := (blk_cell BK238.out 3).trans rfl
    have hfz16_0 := blk_frozen BK238.out 0
    have hfz16_1 := blk_frozen BK238.out 1
    have hfz16_2 := blk_frozen BK238.out 2
    have hfz16_3 := blk_frozen BK238.out 3
    go_wp2_with (first | ((with_reducible refine gate_callee (f := 52) rfl ?_); refine goesL_ (some 33) rfl rfl Tryz.func52 (by kernel_rfl) rfl #[.slice A0 l0.length c0, .agg #[.int .i64 a1_0, .int .i64 a1_1, .slice A1_2 l1_2.length c1_2, .slice A1_3 l1_3.length c1_3]] rfl aQ ?_; (with_reducible refine (berylref20_free.calls kj4 _ _ l0 a1_0 a1_1 _ _ l1_2 _ _ l1_3 t244 _ ?side1 ?side2 ?side3 ?side4 ?side5 ?side6 A15.out).mono ?_); (case side1 => exact cQ (Kd.C_below HR0.out HB.out)); (case side2 => exact HC0.out); (case side3 => exact cQ (Kd.C_below HR1_2.out HB.out)); (case side4 => exact HC1_2.out); (case side5 => exact cQ (Kd.C_below HR1_3.out HB.out)); (case side6 => exact HC1_3.out); rintro e w17 ⟨v245, rfl, ho0, hb⟩; refine ⟨_, rfl, ?_⟩; have n0_ := Aside0.mk (Kd.R_below (rQ HO_8.out) hb); have n1_ := Aside0.mk (Kd.R_lower ho0 (below_size bQ)); have n2_ := Aside0.mk (blk_below (g := gb238) (o := .cells #[.int .i64 a1_0, .int .i64 a1_1, .slice A1_2 l1_2.length c1_2, .slice A1_3 l1_3.length c1_3] 54 (0, 0)) (kQ BK238.out) hb); have n3_ := Aside0.mk (below_step bQ hb); clear HO_8; clear BK238; clear HB; have HO_8 := n0_; have HO246 := n1_; have BK238 := n2_; have HB := n3_; clear n0_ n1_ n2_ n3_; (try clear hb); (try clear hb2); (try clear hk); (try clear hi); (try clear ho0); obtain ⟨Ao18, co18, eo18⟩ := Kd.R_slice HO_8.out; subst eo18))
    go_loopg [11, 12] kj4 (fun kq v11 v12 w' => ∃ (x11_2 : List (S42)) (x12_2 : Int), v12 = .int .i64 x12_2 ∧ Aside0 (berylref20_writes.l0 kq t239 t244 (wrap64 (Int.tdiv (wrap64 ((wrap64 ((t239.length : Int) + 62)) - 1)) 62)) x11_2 x12_2 a1_0 a1_1 l1_2 l1_3 = some (r1, r2)) ∧ Aside0 (kq ≤ kj4) ∧ Aside0 (Kd.R (Kd.int .u8) 5 w' w.heap.size (fun _ => True) (.slice Ao18 t239.length co18) t239) ∧ Aside0 (Kd.R (Kd.int .i64) 3 w' w.heap.size (fun _ => True) v245 t244) ∧ Aside0 (Kd.S k42 42 w' w.heap.size (fun k_ => some k_ ≠ ((.slice Ao18 t239.length co18) : Value).ownBlock) v11 x11_2) ∧ Aside0 (w'.heap[gb238]? = some (.cells #[.int .i64 a1_0, .int .i64 a1_1, (.slice A1_2 l1_2.length c1_2), (.slice A1_3 l1_3.length c1_3)] 54 (0, 0))) ∧ Aside0 (Below w.heap.size w w'))
    case atStart => exact ⟨(([] : List (S42))), (0), sQ, H', ⟨Nat.le_refl _⟩, ⟨by (with_reducible repeat (first | apply Kd.R_alloc | apply Kd.R_drewN | apply Kd.R_drew)); exact HO_8.out⟩, ⟨by (with_reducible repeat (first | apply Kd.R_alloc | apply Kd.R_drewN | apply Kd.R_drew)); exact HO246.out⟩, ⟨by first | exact Kd.S_nil _ _ _ _ _ | exact Kd.N_nil _ _ _ _ _ | exact Kd.V_nil _ _ _ _ _ | exact Kd.Q_nil _ _ _ _ _ | exact Kd.R_nil _ _ _ _ _⟩, ⟨by (with_reducible repeat (first | refine blk_drewN ?_ _ | refine blk_drew ?_ | refine blk_alloc ?_ _)); exact BK238.out⟩, ⟨bQ⟩⟩
    case round =>
     clear H'
     try clear c1
     try clear c2
     try clear p2
     try clear c4
     try clear c5
     try clear p6
     try clear c10
     try clear c10b0
     try clear c14
     try clear hcz13_0
     try clear hcz13_1
     try clear hcz13_2
     try clear hcz13_3
     try clear hcz16_0
     try clear hcz16_1
     try clear hcz16_2
     try clear hcz16_3
     try clear hfz13_0
     try clear hfz13_1
     try clear hfz13_2
     try clear hfz13_3
     try clear hfz16_0
     try clear hfz16_1
     try clear hfz16_2
     try clear hfz16_3
     try clear p2
     try clear p6
     obtain ⟨x11_2, x12_2, rfl, HA, HK2, HO_8, HO_9, HO_11, BK238, HB⟩ := hrel
     cases gk with
     | zero => exact absurd HA.out (by simp [berylref20_writes.l0])
     | succ k2 =>
      have H := HA.out
      clear HA
      simp only [berylref20_writes.l0] at H
      by_cases c19 : x12_2 < (wrap64 (Int.tdiv (wrap64 ((wrap64 ((t239.length : Int) + 62)) - 1)) 62))
      ·rw [if_pos c19] at H
       have c19b0 : decide (x12_2 < (wrap64 (Int.tdiv (wrap64 ((wrap64 ((t239.length : Int) + 62)) - 1)) 62))) = true := decide_eq_true c19
       clear c19
       by_cases c20 : x12_2 < (wrap64 ((wrap64 (Int.tdiv (wrap64 ((wrap64 ((t239.length : Int) + 62)) - 1)) 62)) - 1))
       ·rw [if_pos c20] at H
        have c20b0 : decide (x12_2 < (wrap64 ((wrap64 (Int.tdiv (wrap64 ((wrap64 ((t239.length : Int) + 62)) - 1)) 62)) - 1))) = true := decide_eq_true c20
        clear c20
        obtain ⟨ji21, hji21⟩ : ∃ j_ : Int, (wrap64 (x12_2 + 1)) = j_ := ⟨_, rfl⟩
        replace H : (if 0 ≤ (ji21) then (if (ji21) < (t244.length : Int) then ((berylref20_putWord.f ([] : List Int) (rd t244 (ji21))).bind fun t248 => (if 0 ≤ (wrap64 (x12_2 * 62)) then (if (wrap64 (x12_2 * 62)) ≤ (mn (wrap64 ((ji21) * 62)) (t239.length : Int)) then (if (mn (wrap64 ((ji21) * 62)) (t239.length : Int)) ≤ (t239.length : Int) then ((some ((t239.take ((mn (wrap64 ((ji21) * 62)) (t239.length : Int)) : Int).toNat).drop ((wrap64 (x12_2 * 62)) : Int).toNat : List Int)).bind fun y251 => (if t248.length + y251.length < 140737488355328 then ((some (t248 ++ y251 : List Int)).bind fun y255 => (if 0 ≤ (wrap64 (64 - (y255.length : Int))) then (if y255.length + (wrap64 (64 - (y255.length : Int)) : Int).toNat < 140737488355328 then (if 0 ≤ x12_2 then (if x12_2 < (t244.length : Int) then (if x11_2.length < 4398046511104 then (berylref20_writes.l0 k2 t239 t244 (wrap64 (Int.tdiv (wrap64 ((wrap64 ((t239.length : Int) + 62)) - 1)) 62)) (x11_2 ++ [(⟨rd t244 x12_2, (y255 ++ List.replicate (wrap64 (64 - (y255.length : Int)) : Int).toNat 0)⟩ : S42)]) ji21 a1_0 a1_1 l1_2 l1_3) else (none)) else (none)) else (none)) else (none)) else (none))) else (none))) else (none)) else (none)) else (none))) else (none)) else (none)) = some (r1, r2) := by first | (rw [hji21] at H; exact H) | (simp only [hji21] at H ⊢; exact H)
        have hji21w : (IntKind.i64.wrap (x12_2 + 1)) = ji21 := (i64_w _).trans hji21
        by_cases c22 : 0 ≤ (ji21)
        ·rw [if_pos c22] at H
         have c22b0 : decide (0 ≤ (ji21)) = true := decide_eq_true c22
         clear c22
         by_cases c23 : (ji21) < (t244.length : Int)
         ·rw [if_pos c23] at H
          have c23b0 : decide ((ji21) < (t244.length : Int)) = true := decide_eq_true c23
          clear c23
          replace H := Option.bind_eq_some_iff.mp H
          obtain ⟨t248, A240, H⟩ := H
          have A24 := Aside0.mk A240
          clear A240
          obtain ⟨ji25, hji25⟩ : ∃ j_ : Int, (mn (wrap64 ((ji21) * 62)) (t239.length : Int)) = j_ := ⟨_, rfl⟩
          replace H : (if 0 ≤ (wrap64 (x12_2 * 62)) then (if (wrap64 (x12_2 * 62)) ≤ (ji25) then (if (ji25) ≤ (t239.length : Int) then ((some ((t239.take ((ji25) : Int).toNat).drop ((wrap64 (x12_2 * 62)) : Int).toNat : List Int)).bind fun y251 => (if t248.length + y251.length < 140737488355328 then ((some (t248 ++ y251 : List Int)).bind fun y255 => (if 0 ≤ (wrap64 (64 - (y255.length : Int))) then (if y255.length + (wrap64 (64 - (y255.length : Int)) : Int).toNat < 140737488355328 then (if 0 ≤ x12_2 then (if x12_2 < (t244.length : Int) then (if x11_2.length < 4398046511104 then (berylref20_writes.l0 k2 t239 t244 (wrap64 (Int.tdiv (wrap64 ((wrap64 ((t239.length : Int) + 62)) - 1)) 62)) (x11_2 ++ [(⟨rd t244 x12_2, (y255 ++ List.replicate (wrap64 (64 - (y255.length : Int)) : Int).toNat 0)⟩ : S42)]) ji21 a1_0 a1_1 l1_2 l1_3) else (none)) else (none)) else (none)) else (none)) else (none))) else (none))) else (none)) else (none)) else (none)) = some (r1, r2) := by first | (rw [hji25] at H; exact H) | (simp only [hji25] at H ⊢; exact H)
          (try rw [hji25] at A24)
          have hji25_ : (if (t239.length : Int) < (wrap64 ((ji21) * 62)) then (t239.length : Int) else (wrap64 ((ji21) * 62))) = ji25 := hji25
          obtain ⟨ji26, hji26⟩ : ∃ j_ : Int, (wrap64 (x12_2 * 62)) = j_ := ⟨_, rfl⟩
          replace H : (if 0 ≤ (ji26) then (if (ji26) ≤ (ji25) then (if (ji25) ≤ (t239.length : Int) then ((some ((t239.take ((ji25) : Int).toNat).drop ((ji26) : Int).toNat : List Int)).bind fun y251 => (if t248.length + y251.length < 140737488355328 then ((some (t248 ++ y251 : List Int)).bind fun y255 => (if 0 ≤ (wrap64 (64 - (y255.length : Int))) then (if y255.length + (wrap64 (64 - (y255.length : Int)) : Int).toNat < 140737488355328 then (if 0 ≤ x12_2 then (if x12_2 < (t244.length : Int) then (if x11_2.length < 4398046511104 then (berylref20_writes.l0 k2 t239 t244 (wrap64 (Int.tdiv (wrap64 ((wrap64 ((t239.length : Int) + 62)) - 1)) 62)) (x11_2 ++ [(⟨rd t244 x12_2, (y255 ++ List.replicate (wrap64 (64 - (y255.length : Int)) : Int).toNat 0)⟩ : S42)]) ji21 a1_0 a1_1 l1_2 l1_3) else (none)) else (none)) else (none)) else (none)) else (none))) else (none))) else (none)) else (none)) else (none)) = some (r1, r2) := by first | (rw [hji26] at H; exact H) | (simp only [hji26] at H ⊢; exact H)
          (try rw [hji26] at A24)
          have hji26w : (IntKind.i64.wrap (x12_2 * 62)) = ji26 := (i64_w _).trans hji26
          by_cases c27 : 0 ≤ (ji26)
          ·rw [if_pos c27] at H
           have c27b0 := eq_true c27
           have c27b1 : decide (0 ≤ (ji26)) = true := decide_eq_true c27
           clear c27
           by_cases c28 : (ji26) ≤ (ji25)
           ·rw [if_pos c28] at H
            have c28b0 := eq_true c28
            have c28b1 : decide ((ji26) ≤ (ji25)) = true := decide_eq_true c28
            clear c28
            by_cases c29 : (ji25) ≤ (t239.length : Int)
            ·rw [if_pos c29] at H
             have c29b0 := eq_true c29
             have c29b1 : decide ((ji25) ≤ (t239.length : Int)) = true := decide_eq_true c29
             clear c29
             obtain ⟨y251, hy251⟩ : ∃ y_ : List Int, y_ = ((t239.take ((ji25) : Int).toNat).drop ((ji26) : Int).toNat) := ⟨_, rfl⟩
             replace H : (if t248.length + y251.length < 140737488355328 then ((some (t248 ++ y251 : List Int)).bind fun y255 => (if 0 ≤ (wrap64 (64 - (y255.length : Int))) then (if y255.length + (wrap64 (64 - (y255.length : Int)) : Int).toNat < 140737488355328 then (if 0 ≤ x12_2 then (if x12_2 < (t244.length : Int) then (if x11_2.length < 4398046511104 then (berylref20_writes.l0 k2 t239 t244 (wrap64 (Int.tdiv (wrap64 ((wrap64 ((t239.length : Int) + 62)) - 1)) 62)) (x11_2 ++ [(⟨rd t244 x12_2, (y255 ++ List.replicate (wrap64 (64 - (y255.length : Int)) : Int).toNat 0)⟩ : S42)]) ji21 a1_0 a1_1 l1_2 l1_3) else (none)) else (none)) else (none)) else (none)) else (none))) else (none)) = some (r1, r2) := by first | (rw [hy251]; with_reducible exact H) | (have H2_ := (Option.bind_some _ _).symm.trans H; rw [hy251]; with_reducible exact H2_) | (have H2_ := (Option.bind_some _ _).symm.trans H; with_reducible exact H2_) | with_reducible exact H | (rw [hy251]; exact H) | exact H
             have Ny251 := Aside0.mk hy251
             clear hy251
             by_cases c30 : t248.length + y251.length < 140737488355328
             ·rw [if_pos c30] at H
              have LMc30 := Aside0.mk c30
              clear c30
              obtain ⟨y255, hy255⟩ : ∃ y_ : List Int, y_ = (t248 ++ y251) := ⟨_, rfl⟩
              replace H : (if 0 ≤ (wrap64 (64 - (y255.length : Int))) then (if y255.length + (wrap64 (64 - (y255.length : Int)) : Int).toNat < 140737488355328 then (if 0 ≤ x12_2 then (if x12_2 < (t244.length : Int) then (if x11_2.length < 4398046511104 then (berylref20_writes.l0 k2 t239 t244 (wrap64 (Int.tdiv (wrap64 ((wrap64 ((t239.length : Int) + 62)) - 1)) 62)) (x11_2 ++ [(⟨rd t244 x12_2, (y255 ++ List.replicate (wrap64 (64 - (y255.length : Int)) : Int).toNat 0)⟩ : S42)]) ji21 a1_0 a1_1 l1_2 l1_3) else (none)) else (none)) else (none)) else (none)) else (none)) = some (r1, r2) := by first | (rw [hy255]; with_reducible exact H) | (have H2_ := (Option.bind_some _ _).symm.trans H; rw [hy255]; with_reducible exact H2_) | (have H2_ := (Option.bind_some _ _).symm.trans H; with_reducible exact H2_) | with_reducible exact H | (rw [hy255]; exact H) | exact H
              have Ny255 := Aside0.mk hy255
              clear hy255
              obtain ⟨ji31, hji31⟩ : ∃ j_ : Int, (wrap64 (64 - (y255.length : Int))) = j_ := ⟨_, rfl⟩
              replace H : (if 0 ≤ (ji31) then (if y255.length + (ji31 : Int).toNat < 140737488355328 then (if 0 ≤ x12_2 then (if x12_2 < (t244.length : Int) then (if x11_2.length < 4398046511104 then (berylref20_writes.l0 k2 t239 t244 (wrap64 (Int.tdiv (wrap64 ((wrap64 ((t239.length : Int) + 62)) - 1)) 62)) (x11_2 ++ [(⟨rd t244 x12_2, (y255 ++ List.replicate (ji31 : Int).toNat 0)⟩ : S42)]) ji21 a1_0 a1_1 l1_2 l1_3) else (none)) else (none)) else (none)) else (none)) else (none)) = some (r1, r2) := by first | (rw [hji31] at H; exact H) | (simp only [hji31] at H ⊢; exact H)
              (try rw [hji31] at A24)
              have hji31w : (IntKind.i64.wrap (64 - (y255.length : Int))) = ji31 := (i64_w _).trans hji31
              by_cases c32 : 0 ≤ (ji31)
              ·rw [if_pos c32] at H
               have c32b0 := eq_true c32
               have c32b1 : decide (0 ≤ (ji31)) = true := decide_eq_true c32
               clear c32
               by_cases c33 : y255.length + (ji31 : Int).toNat < 140737488355328
               ·rw [if_pos c33] at H
                have LMc33 := Aside0.mk c33
                clear c33
                obtain ⟨y258, hy258⟩ : ∃ y_ : List Int, y_ = (y255 ++ List.replicate (ji31 : Int).toNat 0) := ⟨_, rfl⟩
                replace H : (if 0 ≤ x12_2 then (if x12_2 < (t244.length : Int) then (if x11_2.length < 4398046511104 then (berylref20_writes.l0 k2 t239 t244 (wrap64 (Int.tdiv (wrap64 ((wrap64 ((t239.length : Int) + 62)) - 1)) 62)) (x11_2 ++ [(⟨rd t244 x12_2, y258⟩ : S42)]) ji21 a1_0 a1_1 l1_2 l1_3) else (none)) else (none)) else (none)) = some (r1, r2) := by first | (rw [hy258]; with_reducible exact H) | (have H2_ := (Option.bind_some _ _).symm.trans H; rw [hy258]; with_reducible exact H2_) | (have H2_ := (Option.bind_some _ _).symm.trans H; with_reducible exact H2_) | with_reducible exact H | (rw [hy258]; exact H) | exact H
                have Ny258 := Aside0.mk hy258
                clear hy258
                by_cases c34 : 0 ≤ x12_2
                ·rw [if_pos c34] at H
                 have c34b0 : decide (0 ≤ x12_2) = true := decide_eq_true c34
                 clear c34
                 by_cases c35 : x12_2 < (t244.length : Int)
                 ·rw [if_pos c35] at H
                  have c35b0 : decide (x12_2 < (t244.length : Int)) = true := decide_eq_true c35
                  clear c35
                  by_cases c36 : x11_2.length < 4398046511104
                  ·rw [if_pos c36] at H
                   have LMc36 := Aside0.mk c36
                   clear c36
                   obtain ⟨y262, hy262⟩ : ∃ y_ : List (S42), y_ = (x11_2 ++ [(⟨rd t244 x12_2, y258⟩ : S42)]) := ⟨_, rfl⟩
                   replace H : (berylref20_writes.l0 k2 t239 t244 (wrap64 (Int.tdiv (wrap64 ((wrap64 ((t239.length : Int) + 62)) - 1)) 62)) y262 ji21 a1_0 a1_1 l1_2 l1_3) = some (r1, r2) := by first | (rw [hy262]; with_reducible exact H) | (have H2_ := (Option.bind_some _ _).symm.trans H; rw [hy262]; with_reducible exact H2_) | (have H2_ := (Option.bind_some _ _).symm.trans H; with_reducible exact H2_) | with_reducible exact H | (rw [hy262]; exact H) | exact H
                   have Ny262 := Aside0.mk hy262
                   clear hy262
                   have H' := Aside0.mk H
                   clear H
                   obtain ⟨Ao37, co37, eo37⟩ := Kd.R_slice HO_9.out
                   subst eo37
                   have p247 : 0 ≤ ((ji21) : Int) := of_decide_eq_true hQ
                   have q247 : (ji21) < (t244.length : Int) := of_decide_eq_true hQ
                   obtain ⟨ad247, e247, hx247_0⟩ := Kd.at_int (Kd.R_reads' HO_9.out).2.2 (ji21) p247 q247
                   cases e247
                   replace p247 := eq_true p247
                   replace q247 := eq_true q247
                   go_wp2_with (first | ((with_reducible refine gate_callee (f := 53) rfl ?_); refine goesL_ (some 54) rfl rfl Tryz.func53 (by kernel_rfl) rfl #[.slice none 0 0, .int .i64 (rd t244 (ji21))] rfl (by (try simp only [List.map_toArray, List.map_cons, List.map_nil]); first | done | (simp only [hji21]; rfl) | rfl | (simp only [List.length_drop, List.length_take]; rfl)) ?_; (refine (berylref20_putWord.calls (fun k_ => some k_ = (.slice none 0 0 : Value).ownBlock) (.slice none 0 0) ([] : List Int) (rd t244 (ji21)) t248 w _ ?side1 ?side2 A24.out).mono ?_); (case side1 => repeat (first | (with_reducible first | exact HB.out | apply below_alloc | apply pw_below_drewN | apply below_drew1 | refine below_set ?_ GE238.out) | exact HB.out)); (case side2 => exact Kd.R_nil _ _ _ _ _); rintro e w38 ⟨v249, rfl, ho0, hb, hkp⟩; refine ⟨_, rfl, ?_⟩; have n0_ := Aside0.mk (Kd.R_mono (ok' := fun k_ => some k_ ≠ (v249 : Value).ownBlock) (Kd.R_keptB (HO_8.out) hkp (fun k_ hk_ hs_ => (fun e_ => by simp [Value.ownBlock] at e_) hs_)) (fun k_ hk_ => fun e_ => Or.elim (ho0.1 k_ e_.symm) (fun hs_ => hk_.2.1 hs_) (fun hn_ => Nat.not_le.2 hk_.2.2 hn_))); have n1_ := Aside0.mk (Kd.R_mono (ok' := fun k_ => True) (Kd.R_keptB (HO_9.out) hkp (fun k_ hk_ hs_ => (fun e_ => by simp [Value.ownBlock] at e_) hs_)) (fun k_ hk_ => trivial)); have n2_ := Aside0.mk (Kd.S_mono (ok' := fun k_ => some k_ ≠ (.slice Ao18 t239.length co18 : Value).ownBlock ∧ some k_ ≠ (v249 : Value).ownBlock) (Kd.S_keptB (HO_11.out) hkp (fun k_ hk_ hs_ => (fun e_ => by simp [Value.ownBlock] at e_) hs_)) (fun k_ hk_ => ⟨hk_.1, fun e_ => Or.elim (ho0.1 k_ e_.symm) (fun hs_ => hk_.2.1 hs_) (fun hn_ => Nat.not_le.2 hk_.2.2 hn_)⟩)); have n3_ := Aside0.mk (blk_kept (kQ BK238.out) hkp (fun hs_ => (fun e_ => by simp [Value.ownBlock] at e_) hs_)); have n4_ := Aside0.mk (Kd.R_mono (ok' := fun k_ => some k_ ≠ (.slice Ao18 t239.length co18 : Value).ownBlock) ho0 (fun k_ hk_ => Or.elim hk_ (fun hs_ => absurd hs_ (by simp [Value.ownBlock])) (fun hn_ => (Kd.fresh' (Kd.R_lt (rQ HO_8.out)) k_ hn_)))); have n5_ := Aside0.mk (hb); clear HO_8; clear HO_9; clear HO_11; clear BK238; clear HB; have HO_8 := n0_; have HO_9 := n1_; have HO_11 := n2_; have BK238 := n3_; have HO250 := n4_; have HB := n5_; clear n0_ n1_ n2_ n3_ n4_ n5_; (try clear hb); (try clear hkp); (try clear ho0); have q39 : ((ji25) : Int) ≤ ((t239.length : Int) : Int) := of_decide_eq_true hQ; obtain ⟨i039, hi039, _, hsz39, _⟩ := info_parts info5; have hroom39 : t239.length ≤ co18 := (Kd.R_reads' HO_8.out).2.1; have hC39 : Kd.C (Kd.int .u8) _ Ao18 t239.length t239 := (Kd.R_reads' HO_8.out).2.2; have ql39 : ((ji26) : Int) ≤ ((ji25) : Int) := of_decide_eq_true hQ; have q039 : (0 : Int) ≤ ((ji26) : Int) := of_decide_eq_true hQ; have hcut39 := cut_mid (P := Tryz.prog) 22 5 .i64 .i64 Tryz.underlying22 hi039 1 hsz39 Ao18 t239.length co18 (ji26) (ji25) q039 ql39 q39 hroom39; have hr39 := Kd.C_mid (lo := ((ji26) : Int).toNat) (hi := ((ji25) : Int).toNat) (c := co18) hC39 (by omega) (by omega) hroom39; obtain ⟨A39, hA39⟩ : ∃ A1, A1 = (if co18 = ((ji26) : Int).toNat then Ao18 else (Ao18 : Option Addr).map (·.add (((ji26) : Int).toNat * 1))) := ⟨_, rfl⟩; obtain ⟨c39, hc39⟩ : ∃ c1, c1 = co18 - ((ji26) : Int).toNat := ⟨_, rfl⟩; have hy39 : y251.length = ((ji25) : Int).toNat - ((ji26) : Int).toNat := (by rw [Ny251.out, List.length_drop, List.length_take] <;> omega); rw [show ((t239).take ((ji25) : Int).toNat).drop ((ji26) : Int).toNat = y251 from Ny251.out.symm] at hr39; replace hr39 : Kd.C (Kd.int .u8) _ A39 y251.length y251 := (by rw [hA39]; exact hr39); rw [← hy39, ← hA39, ← hc39] at hcut39; have HR254 := Aside0.mk hr39; have HC254 := Aside0.mk (show y251.length ≤ c39 from by rw [hy39, hc39]; exact Nat.sub_le_sub_right (Nat.le_trans (by omega) hroom39) _); clear hr39 hC39 hroom39 hi039 hsz39 hc39; have KY39 := Aside0.mk hy39; have KA39 := Aside0.mk hA39; clear hy39 hA39; have KL39 := Aside0.mk (show ((ji25) : Int).toNat ≤ t239.length from by omega); have KM39 := Aside0.mk (show ((ji26) : Int).toNat ≤ ((ji25) : Int).toNat from by omega); replace q39 := eq_true q39) | ((with_reducible refine gate_builtin (b := .append) (xs := #[.tmp 55, .tmp 65]) rfl ?_); at_builtin; refine Kd.R_append_rows (Kd.int .u8) (w0 := w) w.heap.size rfl (.tmp 55) (.tmp 65) 22 5 (.int .u8 0) 1 rfl Tryz.underlying22 info5 rfl (by decide) (by omega) v249 t248 y251 _ _ _ (fun k_ => some k_ ≠ (.slice Ao18 t239.length co18 : Value).ownBlock) (fun _ => False) rfl rfl ?aO ?aR (fun _ _ h => h) (fun _ h => h.elim) ?aF ?aB ?aS ?aL ?_; (case aR => repeat (first | exact (by repeat (first | (with_reducible exact HR254.out) | (with_reducible refine Kd.C_alloc ?_ _) | (with_reducible refine Kd.C_drewN ?_ _) | (with_reducible refine Kd.C_drew ?_) | exact HR254.out)) | (with_reducible refine Kd.C_alloc ?_ _) | (with_reducible refine Kd.C_drewN ?_ _) | (with_reducible refine Kd.C_drew ?_))); (case aB => exact bQ); (case aF => exact (fun k_ hk => Kd.fresh' (Kd.R_lt (rQ HO_8.out)) k_ hk)); (case aO => exact (rQ HO250.out)); (case aS => exact (below_size bQ)); (case aL => have := LMc30.out; omega); intro v256 w40 ho hb hg hat; rw [← Ny255.out] at ho; have n0_ := Aside0.mk (Kd.R_after (ok := (fun _ => True)) (by (with_reducible repeat (first | apply Kd.R_alloc | apply Kd.R_drewN | apply Kd.R_drew)); exact Kd.R_mono HO_8.out (fun _ hk => ⟨trivial, hk⟩)) hg hat); have n1_ := Aside0.mk (Kd.R_over' (rQ HO_9.out) (Kd.R_typed (rQ HO250.out)) (by decide) hg); have n2_ := Aside0.mk (Kd.S_after (ok := (fun k_ => some k_ ≠ (.slice Ao18 t239.length co18 : Value).ownBlock)) (rQ HO_11.out) hg hat); have n3_ := Aside0.mk (blk_grown (g := gb238) (o := .cells #[.int .i64 a1_0, .int .i64 a1_1, .slice A1_2 l1_2.length c1_2, .slice A1_3 l1_3.length c1_3] 54 (0, 0)) (kQ BK238.out) hg (Kd.R_ne HO250.out BK238.out (by decide))); have n4_ := Aside0.mk (hb); have n5_ := Aside0.mk ((show Kd.C (Kd.int .u8) w40 A39 y251.length y251 from by rw [Ny251.out, KA39.out]; exact Kd.C_mid (lo := ((ji26) : Int).toNat) (hi := ((ji25) : Int).toNat) (c := co18) ((Kd.R_reads' (Kd.R_after (ok := (fun _ => True)) (by (with_reducible repeat (first | apply Kd.R_alloc | apply Kd.R_drewN | apply Kd.R_drew)); exact Kd.R_mono HO_8.out (fun _ hk => ⟨trivial, hk⟩)) hg hat)).2.2) KM39.out KL39.out ((Kd.R_reads' (Kd.R_after (ok := (fun _ => True)) (by (with_reducible repeat (first | apply Kd.R_alloc | apply Kd.R_drewN | apply Kd.R_drew)); exact Kd.R_mono HO_8.out (fun _ hk => ⟨trivial, hk⟩)) hg hat)).2.1))); have n6_ := Aside0.mk (ho); clear HO_8; clear HO_9; clear HO_11; clear BK238; clear HB; clear HR254; clear HO250; have HO_8 := n0_; have HO_9 := n1_; have HO_11 := n2_; have BK238 := n3_; have HB := n4_; have HR254 := n5_; have HO257 := n6_; clear n0_ n1_ n2_ n3_ n4_ n5_ n6_; clear ho hb hg hat; obtain ⟨Ao41, co41, eo41⟩ := Kd.R_slice HO257.out; subst eo41) | (at_builtin; refine Kd.R_append_zeros (Kd.int .u8) (w0 := w) w.heap.size rfl (.tmp 67) (.tmp 70) 22 3 5 (.int .u8 0) 1 rfl Tryz.underlying22 Tryz.underlying3 info5 rfl (by decide) (by omega) (.slice Ao41 y255.length co41) y255 0 (ji31 : Int) (fun k_ => some k_ ≠ (.slice Ao18 t239.length co18 : Value).ownBlock) rfl rfl rfl ?aF ?aO (of_decide_eq_true hQ) ?aB ?aS ?aL ?_; (case aB => exact bQ); (case aF => exact (fun k_ hk => Kd.fresh' (Kd.R_lt (rQ HO_8.out)) k_ hk)); (case aO => exact (rQ HO257.out)); (case aS => exact (below_size bQ)); (case aL => have := LMc33.out; omega); intro v259 w42 ho hb hg hat; rw [← Ny258.out] at ho; have n0_ := Aside0.mk (Kd.R_after (ok := (fun _ => True)) (rQ HO_8.out) hg hat); have n1_ := Aside0.mk (Kd.R_over' (rQ HO_9.out) (Kd.R_typed (rQ HO257.out)) (by decide) hg); have n2_ := Aside0.mk (Kd.S_after (ok := (fun k_ => some k_ ≠ (.slice Ao18 t239.length co18 : Value).ownBlock)) (rQ HO_11.out) hg hat); have n3_ := Aside0.mk (blk_grown (g := gb238) (o := .cells #[.int .i64 a1_0, .int .i64 a1_1, .slice A1_2 l1_2.length c1_2, .slice A1_3 l1_3.length c1_3] 54 (0, 0)) (kQ BK238.out) hg (Kd.R_ne HO257.out BK238.out (by decide))); have n4_ := Aside0.mk (hb); have n5_ := Aside0.mk ((show Kd.C (Kd.int .u8) w42 A39 y251.length y251 from by rw [Ny251.out, KA39.out]; exact Kd.C_mid (lo := ((ji26) : Int).toNat) (hi := ((ji25) : Int).toNat) (c := co18) ((Kd.R_reads' (Kd.R_after (ok := (fun _ => True)) (rQ HO_8.out) hg hat)).2.2) KM39.out KL39.out ((Kd.R_reads' (Kd.R_after (ok := (fun _ => True)) (rQ HO_8.out) hg hat)).2.1))); have n6_ := Aside0.mk (ho); clear HO_8; clear HO_9; clear HO_11; clear BK238; clear HB; clear HR254; clear HO257; have HO_8 := n0_; have HO_9 := n1_; have HO_11 := n2_; have BK238 := n3_; have HB := n4_; have HR254 := n5_; have HO260 := n6_; clear n0_ n1_ n2_ n3_ n4_ n5_ n6_; clear ho hb hg hat; have p261 : 0 ≤ (x12_2 : Int) := of_decide_eq_true hQ; have q261 : x12_2 < (t244.length : Int) := of_decide_eq_true hQ; obtain ⟨ad261, e261, hx261_0⟩ := Kd.at_int (Kd.R_reads' HO_9.out).2.2 x12_2 p261 q261; obtain rfl : ad247 = ad261 := (by injection e261); replace p261 := eq_true p261; replace q261 := eq_true q261; obtain ⟨Ao43, co43, eo43⟩ := Kd.R_slice HO260.out; subst eo43) | ((with_reducible refine gate_builtin (b := .append) (xs := #[.tmp 72, .tmp 79]) rfl ?_); at_builtin; refine Kd.S_append k42 (w0 := w) w.heap.size rfl (.tmp 72) (.tmp 79) 25 42 (.agg #[(.int .i64 0), (.slice none 0 0)]) 32 rfl Tryz.underlying25 info42 rfl (by decide) (by omega) u11 x11_2 (⟨rd t244 x12_2, y258⟩ : S42) [.int .i64 (rd t244 x12_2), .slice Ao43 y258.length co43] (fun k_ => some k_ ≠ (.slice Ao18 t239.length co18 : Value).ownBlock) (fun k_ => some k_ = (.slice Ao43 y258.length co43 : Value).ownBlock) rfl rfl ?aP (fun k_ hk_ => ((Kd.R_mono (ok' := fun k_ => ((fun k_ => some k_ ≠ (.slice Ao18 t239.length co18 : Value).ownBlock)) k_ ∧ some k_ ≠ (u11 : Value).ownBlock) (Kd.R_apart' (HO260.out) (Kd.S_typed HO_11.out) (by decide)) (fun k_ hk => ⟨hk.1, hk.2⟩))).1 k_ hk_.symm) ?aF ?aO ?aB ?aS ?aL ?_; (case aP => exact k42_mkM _ _ _ (⟨rd t244 x12_2, y258⟩ : S42) (Kd.R_mono (Kd.R_tight rfl (Kd.R_mono (ok' := fun k_ => ((fun k_ => some k_ ≠ (.slice Ao18 t239.length co18 : Value).ownBlock)) k_ ∧ some k_ ≠ (u11 : Value).ownBlock) (Kd.R_apart' (HO260.out) (Kd.S_typed HO_11.out) (by decide)) (fun k_ hk => ⟨hk.1, hk.2⟩))) (fun _ h_ => h_))); (case aB => exact bQ); (case aF => exact (fun k_ hk => Kd.fresh' (Kd.R_lt (rQ HO_8.out)) k_ hk)); (case aO => exact (by (with_reducible repeat (first | apply Kd.S_alloc | apply Kd.S_drewN | apply Kd.S_drew)); exact Kd.S_mono HO_11.out (fun k_ hk => ⟨hk.1, fun e_ => hk.2 e_⟩))); (case aS => exact (below_size bQ)); (case aL => have := LMc36.out; omega); intro v263 w44 ho hb hg hat; rw [← Ny262.out] at ho; have n0_ := Aside0.mk (Kd.R_over' (rQ HO_8.out) (Kd.S_typed (rQ HO_11.out)) (by decide) hg); have n1_ := Aside0.mk (Kd.R_over' (rQ HO_9.out) (Kd.S_typed (rQ HO_11.out)) (by decide) hg); have n2_ := Aside0.mk (blk_grown (g := gb238) (o := .cells #[.int .i64 a1_0, .int .i64 a1_1, .slice A1_2 l1_2.length c1_2, .slice A1_3 l1_3.length c1_3] 54 (0, 0)) (kQ BK238.out) hg (Kd.S_ne HO_11.out BK238.out (by decide))); have n3_ := Aside0.mk (hb); have n4_ := Aside0.mk ((show Kd.C (Kd.int .u8) w44 A39 y251.length y251 from by rw [Ny251.out, KA39.out]; exact Kd.C_mid (lo := ((ji26) : Int).toNat) (hi := ((ji25) : Int).toNat) (c := co18) ((Kd.R_reads' (Kd.R_over' (rQ HO_8.out) (Kd.S_typed (rQ HO_11.out)) (by decide) hg)).2.2) KM39.out KL39.out ((Kd.R_reads' (Kd.R_over' (rQ HO_8.out) (Kd.S_typed (rQ HO_11.out)) (by decide) hg)).2.1))); have n5_ := Aside0.mk (ho); clear HO_8; clear HO_9; clear BK238; clear HB; clear HR254; clear HO_11; clear HO260; have HO_8 := n0_; have HO_9 := n1_; have BK238 := n2_; have HB := n3_; have HR254 := n4_; have HO264 := n5_; clear n0_ n1_ n2_ n3_ n4_ n5_; clear ho hb hg hat))
                   go_roundg k2
                   case measure => have := HJ4.out; have := HK2.out; omega
                   case rel => exact ⟨(y262), (ji21), (by first | rfl | (simp; done) | (simp only [← hji21] <;> (first | rfl | simp)) | (simp [*]; done)), H', ⟨by have := HJ4.out; have := HK2.out; omega⟩, ⟨by (with_reducible repeat (first | apply Kd.R_alloc | apply Kd.R_drewN | apply Kd.R_drew)); exact Kd.R_mono HO_8.out (fun _ hk => trivial)⟩, ⟨by (with_reducible repeat (first | apply Kd.R_alloc | apply Kd.R_drewN | apply Kd.R_drew)); exact HO_9.out⟩, ⟨by (with_reducible repeat (first | apply Kd.S_alloc | apply Kd.S_drewN | apply Kd.S_drew)); exact HO264.out⟩, ⟨by (with_reducible repeat (first | refine blk_drewN ?_ _ | refine blk_drew ?_ | refine blk_alloc ?_ _)); exact BK238.out⟩, ⟨bQ⟩⟩
                  ·rw [if_neg c36] at H
                   exact absurd H (by simp)
                 ·rw [if_neg c35] at H
                  exact absurd H (by simp)
                ·rw [if_neg c34] at H
                 exact absurd H (by simp)
               ·rw [if_neg c33] at H
                exact absurd H (by simp)
              ·rw [if_neg c32] at H
               exact absurd H (by simp)
             ·rw [if_neg c30] at H
              exact absurd H (by simp)
            ·rw [if_neg c29] at H
             exact absurd H (by simp)
           ·rw [if_neg c28] at H
            exact absurd H (by simp)
          ·rw [if_neg c27] at H
           exact absurd H (by simp)
         ·rw [if_neg c23] at H
          exact absurd H (by simp)
        ·rw [if_neg c22] at H
         exact absurd H (by simp)
       ·rw [if_neg c20] at H
        have c20b0 : decide (x12_2 < (wrap64 ((wrap64 (Int.tdiv (wrap64 ((wrap64 ((t239.length : Int) + 62)) - 1)) 62)) - 1))) = false := decide_eq_false c20
        clear c20
        replace H := Option.bind_eq_some_iff.mp H
        obtain ⟨t265, A450, H⟩ := H
        have A45 := Aside0.mk A450
        clear A450
        obtain ⟨ji46, hji46⟩ : ∃ j_ : Int, (mn (wrap64 ((wrap64 (x12_2 + 1)) * 62)) (t239.length : Int)) = j_ := ⟨_, rfl⟩
        replace H : (if 0 ≤ (wrap64 (x12_2 * 62)) then (if (wrap64 (x12_2 * 62)) ≤ (ji46) then (if (ji46) ≤ (t239.length : Int) then ((some ((t239.take ((ji46) : Int).toNat).drop ((wrap64 (x12_2 * 62)) : Int).toNat : List Int)).bind fun y268 => (if t265.length + y268.length < 140737488355328 then ((some (t265 ++ y268 : List Int)).bind fun y272 => (if 0 ≤ (wrap64 (64 - (y272.length : Int))) then (if y272.length + (wrap64 (64 - (y272.length : Int)) : Int).toNat < 140737488355328 then (if 0 ≤ x12_2 then (if x12_2 < (t244.length : Int) then (if x11_2.length < 4398046511104 then (berylref20_writes.l0 k2 t239 t244 (wrap64 (Int.tdiv (wrap64 ((wrap64 ((t239.length : Int) + 62)) - 1)) 62)) (x11_2 ++ [(⟨rd t244 x12_2, (y272 ++ List.replicate (wrap64 (64 - (y272.length : Int)) : Int).toNat 0)⟩ : S42)]) (wrap64 (x12_2 + 1)) a1_0 a1_1 l1_2 l1_3) else (none)) else (none)) else (none)) else (none)) else (none))) else (none))) else (none)) else (none)) else (none)) = some (r1, r2) := by first | (rw [hji46] at H; exact H) | (simp only [hji46] at H ⊢; exact H)
        (try rw [hji46] at A45)
        have hji46_ : (if (t239.length : Int) < (wrap64 ((wrap64 (x12_2 + 1)) * 62)) then (t239.length : Int) else (wrap64 ((wrap64 (x12_2 + 1)) * 62))) = ji46 := hji46
        obtain ⟨ji47, hji47⟩ : ∃ j_ : Int, (wrap64 (x12_2 * 62)) = j_ := ⟨_, rfl⟩
        replace H : (if 0 ≤ (ji47) then (if (ji47) ≤ (ji46) then (if (ji46) ≤ (t239.length : Int) then ((some ((t239.take ((ji46) : Int).toNat).drop ((ji47) : Int).toNat : List Int)).bind fun y268 => (if t265.length + y268.length < 140737488355328 then ((some (t265 ++ y268 : List Int)).bind fun y272 => (if 0 ≤ (wrap64 (64 - (y272.length : Int))) then (if y272.length + (wrap64 (64 - (y272.length : Int)) : Int).toNat < 140737488355328 then (if 0 ≤ x12_2 then (if x12_2 < (t244.length : Int) then (if x11_2.length < 4398046511104 then (berylref20_writes.l0 k2 t239 t244 (wrap64 (Int.tdiv (wrap64 ((wrap64 ((t239.length : Int) + 62)) - 1)) 62)) (x11_2 ++ [(⟨rd t244 x12_2, (y272 ++ List.replicate (wrap64 (64 - (y272.length : Int)) : Int).toNat 0)⟩ : S42)]) (wrap64 (x12_2 + 1)) a1_0 a1_1 l1_2 l1_3) else (none)) else (none)) else (none)) else (none)) else (none))) else (none))) else (none)) else (none)) else (none)) = some (r1, r2) := by first | (rw [hji47] at H; exact H) | (simp only [hji47] at H ⊢; exact H)
        (try rw [hji47] at A45)
        have hji47w : (IntKind.i64.wrap (x12_2 * 62)) = ji47 := (i64_w _).trans hji47
        by_cases c48 : 0 ≤ (ji47)
        ·rw [if_pos c48] at H
         have c48b0 := eq_true c48
         have c48b1 : decide (0 ≤ (ji47)) = true := decide_eq_true c48
         clear c48
         by_cases c49 : (ji47) ≤ (ji46)
         ·rw [if_pos c49] at H
          have c49b0 := eq_true c49
          have c49b1 : decide ((ji47) ≤ (ji46)) = true := decide_eq_true c49
          clear c49
          by_cases c50 : (ji46) ≤ (t239.length : Int)
          ·rw [if_pos c50] at H
           have c50b0 := eq_true c50
           have c50b1 : decide ((ji46) ≤ (t239.length : Int)) = true := decide_eq_true c50
           clear c50
           obtain ⟨y268, hy268⟩ : ∃ y_ : List Int, y_ = ((t239.take ((ji46) : Int).toNat).drop ((ji47) : Int).toNat) := ⟨_, rfl⟩
           replace H : (if t265.length + y268.length < 140737488355328 then ((some (t265 ++ y268 : List Int)).bind fun y272 => (if 0 ≤ (wrap64 (64 - (y272.length : Int))) then (if y272.length + (wrap64 (64 - (y272.length : Int)) : Int).toNat < 140737488355328 then (if 0 ≤ x12_2 then (if x12_2 < (t244.length : Int) then (if x11_2.length < 4398046511104 then (berylref20_writes.l0 k2 t239 t244 (wrap64 (Int.tdiv (wrap64 ((wrap64 ((t239.length : Int) + 62)) - 1)) 62)) (x11_2 ++ [(⟨rd t244 x12_2, (y272 ++ List.replicate (wrap64 (64 - (y272.length : Int)) : Int).toNat 0)⟩ : S42)]) (wrap64 (x12_2 + 1)) a1_0 a1_1 l1_2 l1_3) else (none)) else (none)) else (none)) else (none)) else (none))) else (none)) = some (r1, r2) := by first | (rw [hy268]; with_reducible exact H) | (have H2_ := (Option.bind_some _ _).symm.trans H; rw [hy268]; with_reducible exact H2_) | (have H2_ := (Option.bind_some _ _).symm.trans H; with_reducible exact H2_) | with_reducible exact H | (rw [hy268]; exact H) | exact H
           have Ny268 := Aside0.mk hy268
           clear hy268
           by_cases c51 : t265.length + y268.length < 140737488355328
           ·rw [if_pos c51] at H
            have LMc51 := Aside0.mk c51
            clear c51
            obtain ⟨y272, hy272⟩ : ∃ y_ : List Int, y_ = (t265 ++ y268) := ⟨_, rfl⟩
            replace H : (if 0 ≤ (wrap64 (64 - (y272.length : Int))) then (if y272.length + (wrap64 (64 - (y272.length : Int)) : Int).toNat < 140737488355328 then (if 0 ≤ x12_2 then (if x12_2 < (t244.length : Int) then (if x11_2.length < 4398046511104 then (berylref20_writes.l0 k2 t239 t244 (wrap64 (Int.tdiv (wrap64 ((wrap64 ((t239.length : Int) + 62)) - 1)) 62)) (x11_2 ++ [(⟨rd t244 x12_2, (y272 ++ List.replicate (wrap64 (64 - (y272.length : Int)) : Int).toNat 0)⟩ : S42)]) (wrap64 (x12_2 + 1)) a1_0 a1_1 l1_2 l1_3) else (none)) else (none)) else (none)) else (none)) else (none)) = some (r1, r2) := by first | (rw [hy272]; with_reducible exact H) | (have H2_ := (Option.bind_some _ _).symm.trans H; rw [hy272]; with_reducible exact H2_) | (have H2_ := (Option.bind_some _ _).symm.trans H; with_reducible exact H2_) | with_reducible exact H | (rw [hy272]; exact H) | exact H
            have Ny272 := Aside0.mk hy272
            clear hy272
            obtain ⟨ji52, hji52⟩ : ∃ j_ : Int, (wrap64 (64 - (y272.length : Int))) = j_ := ⟨_, rfl⟩
            replace H : (if 0 ≤ (ji52) then (if y272.length + (ji52 : Int).toNat < 140737488355328 then (if 0 ≤ x12_2 then (if x12_2 < (t244.length : Int) then (if x11_2.length < 4398046511104 then (berylref20_writes.l0 k2 t239 t244 (wrap64 (Int.tdiv (wrap64 ((wrap64 ((t239.length : Int) + 62)) - 1)) 62)) (x11_2 ++ [(⟨rd t244 x12_2, (y272 ++ List.replicate (ji52 : Int).toNat 0)⟩ : S42)]) (wrap64 (x12_2 + 1)) a1_0 a1_1 l1_2 l1_3) else (none)) else (none)) else (none)) else (none)) else (none)) = some (r1, r2) := by first | (rw [hji52] at H; exact H) | (simp only [hji52] at H ⊢; exact H)
            (try rw [hji52] at A45)
            have hji52w : (IntKind.i64.wrap (64 - (y272.length : Int))) = ji52 := (i64_w _).trans hji52
            by_cases c53 : 0 ≤ (ji52)
            ·rw [if_pos c53] at H
             have c53b0 := eq_true c53
             have c53b1 : decide (0 ≤ (ji52)) = true := decide_eq_true c53
             clear c53
             by_cases c54 : y272.length + (ji52 : Int).toNat < 140737488355328
             ·rw [if_pos c54] at H
              have LMc54 := Aside0.mk c54
              clear c54
              obtain ⟨y275, hy275⟩ : ∃ y_ : List Int, y_ = (y272 ++ List.replicate (ji52 : Int).toNat 0) := ⟨_, rfl⟩
              replace H : (if 0 ≤ x12_2 then (if x12_2 < (t244.length : Int) then (if x11_2.length < 4398046511104 then (berylref20_writes.l0 k2 t239 t244 (wrap64 (Int.tdiv (wrap64 ((wrap64 ((t239.length : Int) + 62)) - 1)) 62)) (x11_2 ++ [(⟨rd t244 x12_2, y275⟩ : S42)]) (wrap64 (x12_2 + 1)) a1_0 a1_1 l1_2 l1_3) else (none)) else (none)) else (none)) = some (r1, r2) := by first | (rw [hy275]; with_reducible exact H) | (have H2_ := (Option.bind_some _ _).symm.trans H; rw [hy275]; with_reducible exact H2_) | (have H2_ := (Option.bind_some _ _).symm.trans H; with_reducible exact H2_) | with_reducible exact H | (rw [hy275]; exact H) | exact H
              have Ny275 := Aside0.mk hy275
              clear hy275
              by_cases c55 : 0 ≤ x12_2
              ·rw [if_pos c55] at H
               have c55b0 : decide (0 ≤ x12_2) = true := decide_eq_true c55
               clear c55
               by_cases c56 : x12_2 < (t244.length : Int)
               ·rw [if_pos c56] at H
                have c56b0 : decide (x12_2 < (t244.length : Int)) = true := decide_eq_true c56
                clear c56
                by_cases c57 : x11_2.length < 4398046511104
                ·rw [if_pos c57] at H
                 have LMc57 := Aside0.mk c57
                 clear c57
                 obtain ⟨y279, hy279⟩ : ∃ y_ : List (S42), y_ = (x11_2 ++ [(⟨rd t244 x12_2, y275⟩ : S42)]) := ⟨_, rfl⟩
                 replace H : (berylref20_writes.l0 k2 t239 t244 (wrap64 (Int.tdiv (wrap64 ((wrap64 ((t239.length : Int) + 62)) - 1)) 62)) y279 (wrap64 (x12_2 + 1)) a1_0 a1_1 l1_2 l1_3) = some (r1, r2) := by first | (rw [hy279]; with_reducible exact H) | (have H2_ := (Option.bind_some _ _).symm.trans H; rw [hy279]; with_reducible exact H2_) | (have H2_ := (Option.bind_some _ _).symm.trans H; with_reducible exact H2_) | with_reducible exact H | (rw [hy279]; exact H) | exact H
                 have Ny279 := Aside0.mk hy279
                 clear hy279
                 have H' := Aside0.mk H
                 clear H
                 go_wp2_with (first | ((with_reducible refine gate_callee (f := 53) rfl ?_); refine goesL_ (some 54) rfl rfl Tryz.func53 (by kernel_rfl) rfl #[.slice none 0 0, .int .i64 0] rfl aQ ?_; (refine (berylref20_putWord.calls (fun k_ => some k_ = (.slice none 0 0 : Value).ownBlock) (.slice none 0 0) ([] : List Int) 0 t265 w _ ?side1 ?side2 A45.out).mono ?_); (case side1 => repeat (first | (with_reducible first | exact HB.out | apply below_alloc | apply pw_below_drewN | apply below_drew1 | refine below_set ?_ GE238.out) | exact HB.out)); (case side2 => exact Kd.R_nil _ _ _ _ _); rintro e w58 ⟨v266, rfl, ho0, hb, hkp⟩; refine ⟨_, rfl, ?_⟩; have n0_ := Aside0.mk (Kd.R_mono (ok' := fun k_ => some k_ ≠ (v266 : Value).ownBlock) (Kd.R_keptB (HO_8.out) hkp (fun k_ hk_ hs_ => (fun e_ => by simp [Value.ownBlock] at e_) hs_)) (fun k_ hk_ => fun e_ => Or.elim (ho0.1 k_ e_.symm) (fun hs_ => hk_.2.1 hs_) (fun hn_ => Nat.not_le.2 hk_.2.2 hn_))); have n1_ := Aside0.mk (Kd.R_mono (ok' := fun k_ => True) (Kd.R_keptB (HO_9.out) hkp (fun k_ hk_ hs_ => (fun e_ => by simp [Value.ownBlock] at e_) hs_)) (fun k_ hk_ => trivial)); have n2_ := Aside0.mk (Kd.S_mono (ok' := fun k_ => some k_ ≠ (.slice Ao18 t239.length co18 : Value).ownBlock ∧ some k_ ≠ (v266 : Value).ownBlock) (Kd.S_keptB (HO_11.out) hkp (fun k_ hk_ hs_ => (fun e_ => by simp [Value.ownBlock] at e_) hs_)) (fun k_ hk_ => ⟨hk_.1, fun e_ => Or.elim (ho0.1 k_ e_.symm) (fun hs_ => hk_.2.1 hs_) (fun hn_ => Nat.not_le.2 hk_.2.2 hn_)⟩)); have n3_ := Aside0.mk (blk_kept (kQ BK238.out) hkp (fun hs_ => (fun e_ => by simp [Value.ownBlock] at e_) hs_)); have n4_ := Aside0.mk (Kd.R_mono (ok' := fun k_ => some k_ ≠ (.slice Ao18 t239.length co18 : Value).ownBlock) ho0 (fun k_ hk_ => Or.elim hk_ (fun hs_ => absurd hs_ (by simp [Value.ownBlock])) (fun hn_ => (Kd.fresh' (Kd.R_lt (rQ HO_8.out)) k_ hn_)))); have n5_ := Aside0.mk (hb); clear HO_8; clear HO_9; clear HO_11; clear BK238; clear HB; have HO_8 := n0_; have HO_9 := n1_; have HO_11 := n2_; have BK238 := n3_; have HO267 := n4_; have HB := n5_; clear n0_ n1_ n2_ n3_ n4_ n5_; (try clear hb); (try clear hkp); (try clear ho0); have q59 : ((ji46) : Int) ≤ ((t239.length : Int) : Int) := of_decide_eq_true hQ; obtain ⟨i059, hi059, _, hsz59, _⟩ := info_parts info5; have hroom59 : t239.length ≤ co18 := (Kd.R_reads' HO_8.out).2.1; have hC59 : Kd.C (Kd.int .u8) _ Ao18 t239.length t239 := (Kd.R_reads' HO_8.out).2.2; have ql59 : ((ji47) : Int) ≤ ((ji46) : Int) := of_decide_eq_true hQ; have q059 : (0 : Int) ≤ ((ji47) : Int) := of_decide_eq_true hQ; have hcut59 := cut_mid (P := Tryz.prog) 22 5 .i64 .i64 Tryz.underlying22 hi059 1 hsz59 Ao18 t239.length co18 (ji47) (ji46) q059 ql59 q59 hroom59; have hr59 := Kd.C_mid (lo := ((ji47) : Int).toNat) (hi := ((ji46) : Int).toNat) (c := co18) hC59 (by omega) (by omega) hroom59; obtain ⟨A59, hA59⟩ : ∃ A1, A1 = (if co18 = ((ji47) : Int).toNat then Ao18 else (Ao18 : Option Addr).map (·.add (((ji47) : Int).toNat * 1))) := ⟨_, rfl⟩; obtain ⟨c59, hc59⟩ : ∃ c1, c1 = co18 - ((ji47) : Int).toNat := ⟨_, rfl⟩; have hy59 : y268.length = ((ji46) : Int).toNat - ((ji47) : Int).toNat := (by rw [Ny268.out, List.length_drop, List.length_take] <;> omega); rw [show ((t239).take ((ji46) : Int).toNat).drop ((ji47) : Int).toNat = y268 from Ny268.out.symm] at hr59; replace hr59 : Kd.C (Kd.int .u8) _ A59 y268.length y268 := (by rw [hA59]; exact hr59); rw [← hy59, ← hA59, ← hc59] at hcut59; have HR271 := Aside0.mk hr59; have HC271 := Aside0.mk (show y268.length ≤ c59 from by rw [hy59, hc59]; exact Nat.sub_le_sub_right (Nat.le_trans (by omega) hroom59) _); clear hr59 hC59 hroom59 hi059 hsz59 hc59; have KY59 := Aside0.mk hy59; have KA59 := Aside0.mk hA59; clear hy59 hA59; have KL59 := Aside0.mk (show ((ji46) : Int).toNat ≤ t239.length from by omega); have KM59 := Aside0.mk (show ((ji47) : Int).toNat ≤ ((ji46) : Int).toNat from by omega); replace q59 := eq_true q59) | ((with_reducible refine gate_builtin (b := .append) (xs := #[.tmp 55, .tmp 65]) rfl ?_); at_builtin; refine Kd.R_append_rows (Kd.int .u8) (w0 := w) w.heap.size rfl (.tmp 55) (.tmp 65) 22 5 (.int .u8 0) 1 rfl Tryz.underlying22 info5 rfl (by decide) (by omega) v266 t265 y268 _ _ _ (fun k_ => some k_ ≠ (.slice Ao18 t239.length co18 : Value).ownBlock) (fun _ => False) rfl rfl ?aO ?aR (fun _ _ h => h) (fun _ h => h.elim) ?aF ?aB ?aS ?aL ?_; (case aR => repeat (first | exact (by repeat (first | (with_reducible exact HR271.out) | (with_reducible refine Kd.C_alloc ?_ _) | (with_reducible refine Kd.C_drewN ?_ _) | (with_reducible refine Kd.C_drew ?_) | exact HR271.out)) | (with_reducible refine Kd.C_alloc ?_ _) | (with_reducible refine Kd.C_drewN ?_ _) | (with_reducible refine Kd.C_drew ?_))); (case aB => exact bQ); (case aF => exact (fun k_ hk => Kd.fresh' (Kd.R_lt (rQ HO_8.out)) k_ hk)); (case aO => exact (rQ HO267.out)); (case aS => exact (below_size bQ)); (case aL => have := LMc51.out; omega); intro v273 w60 ho hb hg hat; rw [← Ny272.out] at ho; have n0_ := Aside0.mk (Kd.R_after (ok := (fun _ => True)) (by (with_reducible repeat (first | apply Kd.R_alloc | apply Kd.R_drewN | apply Kd.R_drew)); exact Kd.R_mono HO_8.out (fun _ hk => ⟨trivial, hk⟩)) hg hat); have n1_ := Aside0.mk (Kd.R_over' (rQ HO_9.out) (Kd.R_typed (rQ HO267.out)) (by decide) hg); have n2_ := Aside0.mk (Kd.S_after (ok := (fun k_ => some k_ ≠ (.slice Ao18 t239.length co18 : Value).ownBlock)) (rQ HO_11.out) hg hat); have n3_ := Aside0.mk (blk_grown (g := gb238) (o := .cells #[.int .i64 a1_0, .int .i64 a1_1, .slice A1_2 l1_2.length c1_2, .slice A1_3 l1_3.length c1_3] 54 (0, 0)) (kQ BK238.out) hg (Kd.R_ne HO267.out BK238.out (by decide))); have n4_ := Aside0.mk (hb); have n5_ := Aside0.mk ((show Kd.C (Kd.int .u8) w60 A59 y268.length y268 from by rw [Ny268.out, KA59.out]; exact Kd.C_mid (lo := ((ji47) : Int).toNat) (hi := ((ji46) : Int).toNat) (c := co18) ((Kd.R_reads' (Kd.R_after (ok := (fun _ => True)) (by (with_reducible repeat (first | apply Kd.R_alloc | apply Kd.R_drewN | apply Kd.R_drew)); exact Kd.R_mono HO_8.out (fun _ hk => ⟨trivial, hk⟩)) hg hat)).2.2) KM59.out KL59.out ((Kd.R_reads' (Kd.R_after (ok := (fun _ => True)) (by (with_reducible repeat (first | apply Kd.R_alloc | apply Kd.R_drewN | apply Kd.R_drew)); exact Kd.R_mono HO_8.out (fun _ hk => ⟨trivial, hk⟩)) hg hat)).2.1))); have n6_ := Aside0.mk (ho); clear HO_8; clear HO_9; clear HO_11; clear BK238; clear HB; clear HR271; clear HO267; have HO_8 := n0_; have HO_9 := n1_; have HO_11 := n2_; have BK238 := n3_; have HB := n4_; have HR271 := n5_; have HO274 := n6_; clear n0_ n1_ n2_ n3_ n4_ n5_ n6_; clear ho hb hg hat; obtain ⟨Ao61, co61, eo61⟩ := Kd.R_slice HO274.out; subst eo61) | (at_builtin; refine Kd.R_append_zeros (Kd.int .u8) (w0 := w) w.heap.size rfl (.tmp 67) (.tmp 70) 22 3 5 (.int .u8 0) 1 rfl Tryz.underlying22 Tryz.underlying3 info5 rfl (by decide) (by omega) (.slice Ao61 y272.length co61) y272 0 (ji52 : Int) (fun k_ => some k_ ≠ (.slice Ao18 t239.length co18 : Value).ownBlock) rfl rfl rfl ?aF ?aO (of_decide_eq_true hQ) ?aB ?aS ?aL ?_; (case aB => exact bQ); (case aF => exact (fun k_ hk => Kd.fresh' (Kd.R_lt (rQ HO_8.out)) k_ hk)); (case aO => exact (rQ HO274.out)); (case aS => exact (below_size bQ)); (case aL => have := LMc54.out; omega); intro v276 w62 ho hb hg hat; rw [← Ny275.out] at ho; have n0_ := Aside0.mk (Kd.R_after (ok := (fun _ => True)) (rQ HO_8.out) hg hat); have n1_ := Aside0.mk (Kd.R_over' (rQ HO_9.out) (Kd.R_typed (rQ HO274.out)) (by decide) hg); have n2_ := Aside0.mk (Kd.S_after (ok := (fun k_ => some k_ ≠ (.slice Ao18 t239.length co18 : Value).ownBlock)) (rQ HO_11.out) hg hat); have n3_ := Aside0.mk (blk_grown (g := gb238) (o := .cells #[.int .i64 a1_0, .int .i64 a1_1, .slice A1_2 l1_2.length c1_2, .slice A1_3 l1_3.length c1_3] 54 (0, 0)) (kQ BK238.out) hg (Kd.R_ne HO274.out BK238.out (by decide))); have n4_ := Aside0.mk (hb); have n5_ := Aside0.mk ((show Kd.C (Kd.int .u8) w62 A59 y268.length y268 from by rw [Ny268.out, KA59.out]; exact Kd.C_mid (lo := ((ji47) : Int).toNat) (hi := ((ji46) : Int).toNat) (c := co18) ((Kd.R_reads' (Kd.R_after (ok := (fun _ => True)) (rQ HO_8.out) hg hat)).2.2) KM59.out KL59.out ((Kd.R_reads' (Kd.R_after (ok := (fun _ => True)) (rQ HO_8.out) hg hat)).2.1))); have n6_ := Aside0.mk (ho); clear HO_8; clear HO_9; clear HO_11; clear BK238; clear HB; clear HR271; clear HO274; have HO_8 := n0_; have HO_9 := n1_; have HO_11 := n2_; have BK238 := n3_; have HB := n4_; have HR271 := n5_; have HO277 := n6_; clear n0_ n1_ n2_ n3_ n4_ n5_ n6_; clear ho hb hg hat; obtain ⟨Ao63, co63, eo63⟩ := Kd.R_slice HO_9.out; subst eo63; have p278 : 0 ≤ (x12_2 : Int) := of_decide_eq_true hQ; have q278 : x12_2 < (t244.length : Int) := of_decide_eq_true hQ; obtain ⟨ad278, e278, hx278_0⟩ := Kd.at_int (Kd.R_reads' HO_9.out).2.2 x12_2 p278 q278; cases e278; replace p278 := eq_true p278; replace q278 := eq_true q278; obtain ⟨Ao64, co64, eo64⟩ := Kd.R_slice HO277.out; subst eo64) | ((with_reducible refine gate_builtin (b := .append) (xs := #[.tmp 72, .tmp 79]) rfl ?_); at_builtin; refine Kd.S_append k42 (w0 := w) w.heap.size rfl (.tmp 72) (.tmp 79) 25 42 (.agg #[(.int .i64 0), (.slice none 0 0)]) 32 rfl Tryz.underlying25 info42 rfl (by decide) (by omega) u11 x11_2 (⟨rd t244 x12_2, y275⟩ : S42) [.int .i64 (rd t244 x12_2), .slice Ao64 y275.length co64] (fun k_ => some k_ ≠ (.slice Ao18 t239.length co18 : Value).ownBlock) (fun k_ => some k_ = (.slice Ao64 y275.length co64 : Value).ownBlock) rfl rfl ?aP (fun k_ hk_ => ((Kd.R_mono (ok' := fun k_ => ((fun k_ => some k_ ≠ (.slice Ao18 t239.length co18 : Value).ownBlock)) k_ ∧ some k_ ≠ (u11 : Value).ownBlock) (Kd.R_apart' (HO277.out) (Kd.S_typed HO_11.out) (by decide)) (fun k_ hk => ⟨hk.1, hk.2⟩))).1 k_ hk_.symm) ?aF ?aO ?aB ?aS ?aL ?_; (case aP => exact k42_mkM _ _ _ (⟨rd t244 x12_2, y275⟩ : S42) (Kd.R_mono (Kd.R_tight rfl (Kd.R_mono (ok' := fun k_ => ((fun k_ => some k_ ≠ (.slice Ao18 t239.length co18 : Value).ownBlock)) k_ ∧ some k_ ≠ (u11 : Value).ownBlock) (Kd.R_apart' (HO277.out) (Kd.S_typed HO_11.out) (by decide)) (fun k_ hk => ⟨hk.1, hk.2⟩))) (fun _ h_ => h_))); (case aB => exact bQ); (case aF => exact (fun k_ hk => Kd.fresh' (Kd.R_lt (rQ HO_8.out)) k_ hk)); (case aO => exact (by (with_reducible repeat (first | apply Kd.S_alloc | apply Kd.S_drewN | apply Kd.S_drew)); exact Kd.S_mono HO_11.out (fun k_ hk => ⟨hk.1, fun e_ => hk.2 e_⟩))); (case aS => exact (below_size bQ)); (case aL => have := LMc57.out; omega); intro v280 w65 ho hb hg hat; rw [← Ny279.out] at ho; have n0_ := Aside0.mk (Kd.R_over' (rQ HO_8.out) (Kd.S_typed (rQ HO_11.out)) (by decide) hg); have n1_ := Aside0.mk (Kd.R_over' (rQ HO_9.out) (Kd.S_typed (rQ HO_11.out)) (by decide) hg); have n2_ := Aside0.mk (blk_grown (g := gb238) (o := .cells #[.int .i64 a1_0, .int .i64 a1_1, .slice A1_2 l1_2.length c1_2, .slice A1_3 l1_3.length c1_3] 54 (0, 0)) (kQ BK238.out) hg (Kd.S_ne HO_11.out BK238.out (by decide))); have n3_ := Aside0.mk (hb); have n4_ := Aside0.mk ((show Kd.C (Kd.int .u8) w65 A59 y268.length y268 from by rw [Ny268.out, KA59.out]; exact Kd.C_mid (lo := ((ji47) : Int).toNat) (hi := ((ji46) : Int).toNat) (c := co18) ((Kd.R_reads' (Kd.R_over' (rQ HO_8.out) (Kd.S_typed (rQ HO_11.out)) (by decide) hg)).2.2) KM59.out KL59.out ((Kd.R_reads' (Kd.R_over' (rQ HO_8.out) (Kd.S_typed (rQ HO_11.out)) (by decide) hg)).2.1))); have n5_ := Aside0.mk (ho); clear HO_8; clear HO_9; clear BK238; clear HB; clear HR271; clear HO_11; clear HO277; have HO_8 := n0_; have HO_9 := n1_; have BK238 := n2_; have HB := n3_; have HR271 := n4_; have HO281 := n5_; clear n0_ n1_ n2_ n3_ n4_ n5_; clear ho hb hg hat))
                 go_roundg k2
                 case measure => have := HJ4.out; have := HK2.out; omega
                 case rel => exact ⟨(y279), (wrap64 (x12_2 + 1)), sQ, H', ⟨by have := HJ4.out; have := HK2.out; omega⟩, ⟨by (with_reducible repeat (first | apply Kd.R_alloc | apply Kd.R_drewN | apply Kd.R_drew)); exact Kd.R_mono HO_8.out (fun _ hk => trivial)⟩, ⟨by (with_reducible repeat (first | apply Kd.R_alloc | apply Kd.R_drewN | apply Kd.R_drew)); exact HO_9.out⟩, ⟨by (with_reducible repeat (first | apply Kd.S_alloc | apply Kd.S_drewN | apply Kd.S_drew)); exact HO281.out⟩, ⟨by (with_reducible repeat (first | refine blk_drewN ?_ _ | refine blk_drew ?_ | refine blk_alloc ?_ _)); exact BK238.out⟩, ⟨bQ⟩⟩
                ·rw [if_neg c57] at H
                 exact absurd H (by simp)
               ·rw [if_neg c56] at H
                exact absurd H (by simp)
              ·rw [if_neg c55] at H
               exact absurd H (by simp)
             ·rw [if_neg c54] at H
              exact absurd H (by simp)
            ·rw [if_neg c53] at H
             exact absurd H (by simp)
           ·rw [if_neg c51] at H
            exact absurd H (by simp)
          ·rw [if_neg c50] at H
           exact absurd H (by simp)
         ·rw [if_neg c49] at H
          exact absurd H (by simp)
        ·rw [if_neg c48] at H
         exact absurd H (by simp)
      ·rw [if_neg c19] at H
       have c19b0 : decide (x12_2 < (wrap64 (Int.tdiv (wrap64 ((wrap64 ((t239.length : Int) + 62)) - 1)) 62))) = false := decide_eq_false c19
       clear c19
       replace H := Option.bind_eq_some_iff.mp H
       obtain ⟨t282, A660, H⟩ := H
       have A66 := Aside0.mk A660
       clear A660
       replace H := Option.bind_eq_some_iff.mp H
       obtain ⟨t285, A670, H⟩ := H
       have A67 := Aside0.mk A670
       clear A670
       by_cases c68 : (wrap64 (Int.tdiv (wrap64 ((wrap64 ((t239.length : Int) + 62)) - 1)) 62)) > 0
       ·rw [if_pos c68] at H
        have c68b0 : decide (0 < (wrap64 (Int.tdiv (wrap64 ((wrap64 ((t239.length : Int) + 62)) - 1)) 62))) = true := decide_eq_true c68
        clear c68
        by_cases c69 : 0 < (t244.length : Int)
        ·rw [if_pos c69] at H
         have c69b0 : decide (0 < (t244.length : Int)) = true := decide_eq_true c69
         have c69b1 : decide (0 < t244.length) = true := decide_eq_true (by omega)
         clear c69
         replace H := Option.bind_eq_some_iff.mp H
         obtain ⟨t289, A700, H⟩ := H
         have A70 := Aside0.mk A700
         clear A700
         by_cases c71 : t289.length + 18 < 140737488355328
         ·rw [if_pos c71] at H
          have LMc71 := Aside0.mk c71
          clear c71
          obtain ⟨y292, hy292⟩ : ∃ y_ : List Int, y_ = (t289 ++ List.replicate 18 0) := ⟨_, rfl⟩
          replace H : ((berylref20_putLong.f k2 y292 (wrap64 (a1_1 + 1))).bind fun t295 => ((some (([] : List Int) : List Int)).bind fun y298 => (if y298.length + t295.length < 140737488355328 then ((some (y298 ++ t295 : List Int)).bind fun y301 => (if y301.length + t295.length < 140737488355328 then (if x11_2.length < 4398046511104 then (some ((x11_2 ++ [(⟨wrap64 (1 - a1_0), (y301 ++ t295)⟩ : S42)]), 0)) else (none)) else (none))) else (none)))) = some (r1, r2) := by first | (rw [hy292]; with_reducible exact H) | (have H2_ := (Option.bind_some _ _).symm.trans H; rw [hy292]; with_reducible exact H2_) | (have H2_ := (Option.bind_some _ _).symm.trans H; with_reducible exact H2_) | with_reducible exact H | (rw [hy292]; exact H) | exact H
          have Ny292 := Aside0.mk hy292
          clear hy292
          replace H := Option.bind_eq_some_iff.mp H
          obtain ⟨t295, A720, H⟩ := H
          have A72 := Aside0.mk A720
          clear A720
          obtain ⟨y298, hy298⟩ : ∃ y_ : List Int, y_ = (([] : List Int)) := ⟨_, rfl⟩
          replace H : (if y298.length + t295.length < 140737488355328 then ((some (y298 ++ t295 : List Int)).bind fun y301 => (if y301.length + t295.length < 140737488355328 then (if x11_2.length < 4398046511104 then (some ((x11_2 ++ [(⟨wrap64 (1 - a1_0), (y301 ++ t295)⟩ : S42)]), 0)) else (none)) else (none))) else (none)) = some (r1, r2) := by first | (rw [hy298]; with_reducible exact H) | (have H2_ := (Option.bind_some _ _).symm.trans H; rw [hy298]; with_reducible exact H2_) | (have H2_ := (Option.bind_some _ _).symm.trans H; with_reducible exact H2_) | with_reducible exact H | (rw [hy298]; exact H) | exact H
          have Ny298 := Aside0.mk hy298
          clear hy298
          by_cases c73 : y298.length + t295.length < 140737488355328
          ·rw [if_pos c73] at H
           have LMc73 := Aside0.mk c73
           clear c73
           obtain ⟨y301, hy301⟩ : ∃ y_ : List Int, y_ = (y298 ++ t295) := ⟨_, rfl⟩
           replace H : (if y301.length + t295.length < 140737488355328 then (if x11_2.length < 4398046511104 then (some ((x11_2 ++ [(⟨wrap64 (1 - a1_0), (y301 ++ t295)⟩ : S42)]), 0)) else (none)) else (none)) = some (r1, r2) := by first | (rw [hy301]; with_reducible exact H) | (have H2_ := (Option.bind_some _ _).symm.trans H; rw [hy301]; with_reducible exact H2_) | (have H2_ := (Option.bind_some _ _).symm.trans H; with_reducible exact H2_) | with_reducible exact H | (rw [hy301]; exact H) | exact H
           have Ny301 := Aside0.mk hy301
           clear hy301
           by_cases c74 : y301.length + t295.length < 140737488355328
           ·rw [if_pos c74] at H
            have LMc74 := Aside0.mk c74
            clear c74
            obtain ⟨y304, hy304⟩ : ∃ y_ : List Int, y_ = (y301 ++ t295) := ⟨_, rfl⟩
            replace H : (if x11_2.length < 4398046511104 then (some ((x11_2 ++ [(⟨wrap64 (1 - a1_0), y304⟩ : S42)]), 0)) else (none)) = some (r1, r2) := by first | (rw [hy304]; with_reducible exact H) | (have H2_ := (Option.bind_some _ _).symm.trans H; rw [hy304]; with_reducible exact H2_) | (have H2_ := (Option.bind_some _ _).symm.trans H; with_reducible exact H2_) | with_reducible exact H | (rw [hy304]; exact H) | exact H
            have Ny304 := Aside0.mk hy304
            clear hy304
            by_cases c75 : x11_2.length < 4398046511104
            ·rw [if_pos c75] at H
             have LMc75 := Aside0.mk c75
             clear c75
             obtain ⟨y307, hy307⟩ : ∃ y_ : List (S42), y_ = (x11_2 ++ [(⟨wrap64 (1 - a1_0), y304⟩ : S42)]) := ⟨_, rfl⟩
             replace H : (some (y307, 0)) = some (r1, r2) := by first | (rw [hy307]; with_reducible exact H) | (have H2_ := (Option.bind_some _ _).symm.trans H; rw [hy307]; with_reducible exact H2_) | (have H2_ := (Option.bind_some _ _).symm.trans H; with_reducible exact H2_) | with_reducible exact H | (rw [hy307]; exact H) | exact H
             have Ny307 := Aside0.mk hy307
             clear hy307
             simp only [Option.some.injEq, Prod.mk.injEq] at H
             obtain ⟨rfl, rfl⟩ := H
             go_wp2_with fail
             (refine (berylref20_putWord.calls (fun k_ => some k_ = (.slice none 0 0 : Value).ownBlock) (.slice none 0 0) ([] : List Int) (wrap64 (Int.tdiv (wrap64 ((wrap64 ((t239.length : Int) + 62)) - 1)) 62)) t282 w _ ?side1 ?side2 A66.out).mono ?_)
             (case side1 => repeat (first | (with_reducible first | exact HB.out | apply below_alloc | apply pw_below_drewN | apply below_drew1 | refine below_set ?_ GE238.out) | exact HB.out))
             (case side2 => exact Kd.R_nil _ _ _ _ _)
             rintro e w76 ⟨v283, rfl, ho0, hb, hkp⟩
             have n0_ := Aside0.mk (Kd.R_mono (ok' := fun k_ => some k_ ≠ (v283 : Value).ownBlock) (Kd.R_keptB (HO_8.out) hkp (fun k_ hk_ hs_ => (fun e_ => by simp [Value.ownBlock] at e_) hs_)) (fun k_ hk_ => fun e_ => Or.elim (ho0.1 k_ e_.symm) (fun hs_ => hk_.2.1 hs_) (fun hn_ => Nat.not_le.2 hk_.2.2 hn_)))
             have n1_ := Aside0.mk (Kd.R_mono (ok' := fun k_ => True) (Kd.R_keptB (HO_9.out) hkp (fun k_ hk_ hs_ => (fun e_ => by simp [Value.ownBlock] at e_) hs_)) (fun k_ hk_ => trivial))
             have n2_ := Aside0.mk (Kd.S_mono (ok' := fun k_ => some k_ ≠ (.slice Ao18 t239.length co18 : Value).ownBlock ∧ some k_ ≠ (v283 : Value).ownBlock) (Kd.S_keptB (HO_11.out) hkp (fun k_ hk_ hs_ => (fun e_ => by simp [Value.ownBlock] at e_) hs_)) (fun k_ hk_ => ⟨hk_.1, fun e_ => Or.elim (ho0.1 k_ e_.symm) (fun hs_ => hk_.2.1 hs_) (fun hn_ => Nat.not_le.2 hk_.2.2 hn_)⟩))
             have n3_ := Aside0.mk (blk_kept (kQ BK238.out) hkp (fun hs_ => (fun e_ => by simp [Value.ownBlock] at e_) hs_))
             have n4_ := Aside0.mk (Kd.R_mono (ok' := fun k_ => some k_ ≠ (.slice Ao18 t239.length co18 : Value).ownBlock) ho0 (fun k_ hk_ => Or.elim hk_ (fun hs_ => absurd hs_ (by simp [Value.ownBlock])) (fun hn_ => (Kd.fresh' (Kd.R_lt (rQ HO_8.out)) k_ hn_))))
             have n5_ := Aside0.mk (hb)
             clear HO_8
             clear HO_9
             clear HO_11
             clear BK238
             clear HB
             have HO_8 := n0_
             have HO_9 := n1_
             have HO_11 := n2_
             have BK238 := n3_
             have HO284 := n4_
             have HB := n5_
             clear n0_ n1_ n2_ n3_ n4_ n5_
             (try clear hb)
             (try clear hkp)
             (try clear ho0)
             obtain ⟨Ao77, co77, eo77⟩ := Kd.R_slice HO284.out
             subst eo77
             go_wp2_with fail
             (with_reducible refine (berylref20_putWord.calls (fun k_ => some k_ = (.slice Ao77 t282.length co77 : Value).ownBlock) (.slice Ao77 t282.length co77) t282 (t239.length : Int) t285 w _ ?side1 ?side2 A67.out).mono ?_)
             (case side1 => repeat (first | (with_reducible first | exact HB.out | apply below_alloc | apply pw_below_drewN | apply below_drew1 | refine below_set ?_ GE238.out) | exact HB.out))
             (case side2 => exact Kd.R_tight rfl HO284.out)
             rintro e w78 ⟨v286, rfl, ho0, hb, hkp⟩
             have n0_ := Aside0.mk (Kd.R_mono (ok' := fun k_ => some k_ ≠ (v286 : Value).ownBlock) (Kd.R_keptB (HO_8.out) hkp (fun k_ hk_ hs_ => (hk_) hs_)) (fun k_ hk_ => fun e_ => Or.elim (ho0.1 k_ e_.symm) (fun hs_ => hk_.2.1 hs_) (fun hn_ => Nat.not_le.2 hk_.2.2 hn_)))
             have n1_ := Aside0.mk (Kd.R_mono (ok' := fun k_ => True) (Kd.R_keptB ((Kd.R_apart' HO_9.out (Kd.R_typed HO284.out) (by decide))) hkp (fun k_ hk_ hs_ => (hk_.2) hs_)) (fun k_ hk_ => trivial))
             have n2_ := Aside0.mk (Kd.S_mono (ok' := fun k_ => some k_ ≠ (.slice Ao18 t239.length co18 : Value).ownBlock ∧ some k_ ≠ (v286 : Value).ownBlock) (Kd.S_keptB (HO_11.out) hkp (fun k_ hk_ hs_ => (hk_.2) hs_)) (fun k_ hk_ => ⟨hk_.1.1, fun e_ => Or.elim (ho0.1 k_ e_.symm) (fun hs_ => hk_.2.1 hs_) (fun hn_ => Nat.not_le.2 hk_.2.2 hn_)⟩))
             have n3_ := Aside0.mk (blk_kept (kQ BK238.out) hkp (fun hs_ => (fun e_ => (Kd.R_ne HO284.out BK238.out (by decide)) e_) hs_))
             have n4_ := Aside0.mk (Kd.R_mono (ok' := fun k_ => some k_ ≠ (.slice Ao18 t239.length co18 : Value).ownBlock) ho0 (fun k_ hk_ => Or.elim hk_ (fun hs_ => fun e_ => (((HO_8.out).1 k_ e_.symm)) hs_) (fun hn_ => (Kd.fresh' (Kd.R_lt (rQ HO_8.out)) k_ hn_))))
             have n5_ := Aside0.mk (hb)
             clear HO_8
             clear HO_9
             clear HO_11
             clear BK238
             clear HB
             clear HO284
             have HO_8 := n0_
             have HO_9 := n1_
             have HO_11 := n2_
             have BK238 := n3_
             have HO287 := n4_
             have HB := n5_
             clear n0_ n1_ n2_ n3_ n4_ n5_
             (try clear hb)
             (try clear hkp)
             (try clear ho0)
             obtain ⟨Ao79, co79, eo79⟩ := Kd.R_slice HO_9.out
             subst eo79
             have p288 : 0 ≤ (0 : Int) := (by omega)
             have q288 : 0 < (t244.length : Int) := of_decide_eq_true hQ
             obtain ⟨ad288, e288, hx288_0⟩ := Kd.at_int (Kd.R_reads' HO_9.out).2.2 0 p288 q288
             cases e288
             have qi288 : (0 < t244.length) = True := eq_true (by omega)
             (try rw [show ((0 : Int)).toNat = 0 from rfl] at hx288_0)
             (try rw [Addr.add_zero'] at hx288_0)
             replace p288 := eq_true p288
             replace q288 := eq_true q288
             obtain ⟨Ao80, co80, eo80⟩ := Kd.R_slice HO287.out
             subst eo80
             go_wp2_with fail
             (with_reducible refine (berylref20_putWord.calls (fun k_ => some k_ = (.slice Ao80 t285.length co80 : Value).ownBlock) (.slice Ao80 t285.length co80) t285 (rd t244 0) t289 w _ ?side1 ?side2 A70.out).mono ?_)
             (case side1 => repeat (first | (with_reducible first | exact HB.out | apply below_alloc | apply pw_below_drewN | apply below_drew1 | refine below_set ?_ GE238.out) | exact HB.out))
             (case side2 => exact Kd.R_tight rfl HO287.out)
             rintro e w81 ⟨v290, rfl, ho0, hb, hkp⟩
             have n0_ := Aside0.mk (Kd.R_mono (ok' := fun k_ => some k_ ≠ (v290 : Value).ownBlock) (Kd.R_keptB (HO_8.out) hkp (fun k_ hk_ hs_ => (hk_) hs_)) (fun k_ hk_ => fun e_ => Or.elim (ho0.1 k_ e_.symm) (fun hs_ => hk_.2.1 hs_) (fun hn_ => Nat.not_le.2 hk_.2.2 hn_)))
             have n1_ := Aside0.mk (Kd.R_mono (ok' := fun k_ => True) (Kd.R_keptB ((Kd.R_apart' HO_9.out (Kd.R_typed HO287.out) (by decide))) hkp (fun k_ hk_ hs_ => (hk_.2) hs_)) (fun k_ hk_ => trivial))
             have n2_ := Aside0.mk (Kd.S_mono (ok' := fun k_ => some k_ ≠ (.slice Ao18 t239.length co18 : Value).ownBlock ∧ some k_ ≠ (v290 : Value).ownBlock) (Kd.S_keptB (HO_11.out) hkp (fun k_ hk_ hs_ => (hk_.2) hs_)) (fun k_ hk_ => ⟨hk_.1.1, fun e_ => Or.elim (ho0.1 k_ e_.symm) (fun hs_ => hk_.2.1 hs_) (fun hn_ => Nat.not_le.2 hk_.2.2 hn_)⟩))
             have n3_ := Aside0.mk (blk_kept (kQ BK238.out) hkp (fun hs_ => (fun e_ => (Kd.R_ne HO287.out BK238.out (by decide)) e_) hs_))
             have n4_ := Aside0.mk (Kd.R_mono (ok' := fun k_ => some k_ ≠ (.slice Ao18 t239.length co18 : Value).ownBlock) ho0 (fun k_ hk_ => Or.elim hk_ (fun hs_ => fun e_ => (((HO_8.out).1 k_ e_.symm)) hs_) (fun hn_ => (Kd.fresh' (Kd.R_lt (rQ HO_8.out)) k_ hn_))))
             have n5_ := Aside0.mk (hb)
             clear HO_8
             clear HO_9
             clear HO_11
             clear BK238
             clear HB
             clear HO287
             have HO_8 := n0_
             have HO_9 := n1_
             have HO_11 := n2_
             have BK238 := n3_
             have HO291 := n4_
             have HB := n5_
             clear n0_ n1_ n2_ n3_ n4_ n5_
             (try clear hb)
             (try clear hkp)
             (try clear ho0)
             go_wp2_with (first | (at_builtin; refine Kd.R_append_zeros (Kd.int .u8) (w0 := w) w.heap.size rfl (.tmp 95) (.const (.int .i64 18)) 22 3 5 (.int .u8 0) 1 rfl Tryz.underlying22 Tryz.underlying3 info5 rfl (by decide) (by omega) v290 t289 0 (18 : Int) (fun k_ => some k_ ≠ (.slice Ao18 t239.length co18 : Value).ownBlock) rfl rfl rfl ?aF ?aO (by omega) ?aB ?aS ?aL ?_; (case aB => exact bQ); (case aF => exact (fun k_ hk => Kd.fresh' (Kd.R_lt (rQ HO_8.out)) k_ hk)); (case aO => exact (rQ HO291.out)); (case aS => exact (below_size bQ)); (case aL => have := LMc71.out; omega); intro v293 w82 ho hb hg hat; rw [show (18 : Int).toNat = 18 from rfl, ← Ny292.out] at ho; have n0_ := Aside0.mk (Kd.R_after (ok := (fun _ => True)) (by (with_reducible repeat (first | apply Kd.R_alloc | apply Kd.R_drewN | apply Kd.R_drew)); exact Kd.R_mono HO_8.out (fun _ hk => ⟨trivial, hk⟩)) hg hat); have n1_ := Aside0.mk (Kd.R_over' (rQ HO_9.out) (Kd.R_typed (rQ HO291.out)) (by decide) hg); have n2_ := Aside0.mk (Kd.S_after (ok := (fun k_ => some k_ ≠ (.slice Ao18 t239.length co18 : Value).ownBlock)) (rQ HO_11.out) hg hat); have n3_ := Aside0.mk (blk_grown (g := gb238) (o := .cells #[.int .i64 a1_0, .int .i64 a1_1, .slice A1_2 l1_2.length c1_2, .slice A1_3 l1_3.length c1_3] 54 (0, 0)) (kQ BK238.out) hg (Kd.R_ne HO291.out BK238.out (by decide))); have n4_ := Aside0.mk (hb); have n5_ := Aside0.mk (ho); clear HO_8; clear HO_9; clear HO_11; clear BK238; clear HB; clear HO291; have HO_8 := n0_; have HO_9 := n1_; have HO_11 := n2_; have BK238 := n3_; have HB := n4_; have HO294 := n5_; clear n0_ n1_ n2_ n3_ n4_ n5_; clear ho hb hg hat; have hcz83_0 : w82.cell? ⟨gb238, 0, none⟩ = some (.int .i64 a1_0) := (blk_cell BK238.out 0).trans rfl; have hcz83_1 : w82.cell? ⟨gb238, 1, none⟩ = some (.int .i64 a1_1) := (blk_cell BK238.out 1).trans rfl; have hcz83_2 : w82.cell? ⟨gb238, 2, none⟩ = some (.slice A1_2 l1_2.length c1_2) := (blk_cell BK238.out 2).trans rfl; have hcz83_3 : w82.cell? ⟨gb238, 3, none⟩ = some (.slice A1_3 l1_3.length c1_3) := (blk_cell BK238.out 3).trans rfl; have hfz83_0 := blk_frozen BK238.out 0; have hfz83_1 := blk_frozen BK238.out 1; have hfz83_2 := blk_frozen BK238.out 2; have hfz83_3 := blk_frozen BK238.out 3; obtain ⟨Ao84, co84, eo84⟩ := Kd.R_slice HO294.out; subst eo84))
             (with_reducible refine (berylref20_putLong.calls k2 (fun k_ => some k_ = (.slice Ao84 y292.length co84 : Value).ownBlock) (.slice Ao84 y292.length co84) y292 (wrap64 (a1_1 + 1)) t295 w _ ?side1 ?side2 A72.out).mono ?_)
             (case side1 => repeat (first | (with_reducible first | exact HB.out | apply below_alloc | apply pw_below_drewN | apply below_drew1 | refine below_set ?_ GE238.out) | exact HB.out))
             (case side2 => exact Kd.R_tight rfl HO294.out)
             rintro e w85 ⟨v296, rfl, ho0, hb, hkp⟩
             have n0_ := Aside0.mk (Kd.R_mono (ok' := fun k_ => some k_ ≠ (v296 : Value).ownBlock) (Kd.R_keptB (HO_8.out) hkp (fun k_ hk_ hs_ => (hk_.2) hs_)) (fun k_ hk_ => fun e_ => Or.elim (ho0.1 k_ e_.symm) (fun hs_ => hk_.2.1 hs_) (fun hn_ => Nat.not_le.2 hk_.2.2 hn_)))
             have n1_ := Aside0.mk (Kd.R_mono (ok' := fun k_ => True) (Kd.R_keptB ((Kd.R_apart' HO_9.out (Kd.R_typed HO294.out) (by decide))) hkp (fun k_ hk_ hs_ => (hk_.2) hs_)) (fun k_ hk_ => trivial))
             have n2_ := Aside0.mk (Kd.S_mono (ok' := fun k_ => some k_ ≠ (.slice Ao18 t239.length co18 : Value).ownBlock ∧ some k_ ≠ (v296 : Value).ownBlock) (Kd.S_keptB (HO_11.out) hkp (fun k_ hk_ hs_ => (hk_.2) hs_)) (fun k_ hk_ => ⟨hk_.1.1, fun e_ => Or.elim (ho0.1 k_ e_.symm) (fun hs_ => hk_.2.1 hs_) (fun hn_ => Nat.not_le.2 hk_.2.2 hn_)⟩))
             have n3_ := Aside0.mk (blk_kept (kQ BK238.out) hkp (fun hs_ => (fun e_ => (Kd.R_ne HO294.out BK238.out (by decide)) e_) hs_))
             have n4_ := Aside0.mk (Kd.R_mono (ok' := fun k_ => some k_ ≠ (.slice Ao18 t239.length co18 : Value).ownBlock) ho0 (fun k_ hk_ => Or.elim hk_ (fun hs_ => fun e_ => (((HO_8.out).1 k_ e_.symm).2) hs_) (fun hn_ => (Kd.fresh' (Kd.R_lt (rQ HO_8.out)) k_ hn_))))
             have n5_ := Aside0.mk (hb)
             clear HO_8
             clear HO_9
             clear HO_11
             clear BK238
             clear HB
             clear HO294
             have HO_8 := n0_
             have HO_9 := n1_
             have HO_11 := n2_
             have BK238 := n3_
             have HO297 := n4_
             have HB := n5_
             clear n0_ n1_ n2_ n3_ n4_ n5_
             (try clear hb)
             (try clear hkp)
             (try clear ho0)
             try go_wp2_with fail
             have n0_ := Aside0.mk (Kd.R_drew HO_8.out)
             have n1_ := Aside0.mk (Kd.R_drew HO_9.out)
             have n2_ := Aside0.mk (Kd.S_drew HO_11.out)
             have n3_ := Aside0.mk (Kd.R_drew HO297.out)
             have n4_ := Aside0.mk (blk_drew BK238.out)
             have n5_ := Aside0.mk (below_drew1 HB.out)
             clear HO_8
             clear HO_9
             clear HO_11
             clear HO297
             clear BK238
             clear HB
             have HO_8 := n0_
             have HO_9 := n1_
             have HO_11 := n2_
             have HO297 := n3_
             have BK238 := n4_
             have HB := n5_
             clear n0_ n1_ n2_ n3_ n4_ n5_
             refine start_ (n := 14) (S := fun w' => w'.cell? ⟨gb238, 0, none⟩ = some (.int .i64 a1_0) ∧ w'.cell? ⟨gb238, 1, none⟩ = some (.int .i64 a1_1) ∧ w'.cell? ⟨gb238, 2, none⟩ = some (.slice A1_2 l1_2.length c1_2) ∧ w'.cell? ⟨gb238, 3, none⟩ = some (.slice A1_3 l1_3.length c1_3)) (ds := []) #[false, false, false, false, false, false, false, false, false, false, false, false, false, false] (by kernel_rfl) rfl rfl ⟨(blk_cell BK238.out 0).trans rfl, (blk_cell BK238.out 1).trans rfl, (blk_cell BK238.out 2).trans rfl, (blk_cell BK238.out 3).trans rfl⟩ (fun hHeld => ?_); refine with_tabW berylref20_writes.tab25 berylref20_writes.bits25 (fun HT_ HW_ => ?_)
             generalize w85.drew = w86 at HO_8 HO_9 HO_11 HO297 BK238 HB hHeld ⊢
             refine pure_ (i := 0) (N := some 102) (v := ?_) (a' := ?_) #[true, false, false, false, false, false, false, false, false, false, false, false, false, false] rfl rfl (any_of HT_.out (by kernel_rfl)) (fun _ _ _ h => h) (Or.inl ⟨by rfl, ?_⟩) ?_ ?_
             rotate_left
             ·intro w'
              go_simp
              with_reducible rfl
             rotate_left
             ·simp only [Act.put, List.setIfInBounds_toArray, List.set_cons_zero, List.set_cons_succ, i64_w, i32_w]
              rfl
             refine pure_ (i := 1) (N := some 103) (v := ?_) (a' := ?_) #[true, true, false, false, false, false, false, false, false, false, false, false, false, false] rfl rfl (any_of HT_.out (by kernel_rfl)) (fun _ _ _ h => h) (Or.inl ⟨by rfl, ?_⟩) ?_ ?_
             rotate_left
             ·intro w'
              go_simp
              with_reducible rfl
             rotate_left
             ·simp only [Act.put, List.setIfInBounds_toArray, List.set_cons_zero, List.set_cons_succ, i64_w, i32_w]
              rfl
             refine pure_ (i := 5) (N := some 107) (v := ?_) (a' := ?_) #[true, true, false, false, false, true, false, false, false, false, false, false, false, false] rfl rfl (any_of HT_.out (by kernel_rfl)) (fun _ _ _ h => h) (Or.inl ⟨by rfl, ?_⟩) ?_ ?_
             rotate_left
             ·intro w'
              go_simp
              with_reducible rfl
             rotate_left
             ·simp only [Act.put, List.setIfInBounds_toArray, List.set_cons_zero, List.set_cons_succ, i64_w, i32_w]
              rfl
             refine pure_ (i := 7) (N := some 109) (v := ?_) (a' := ?_) #[true, true, false, false, false, true, false, true, false, false, false, false, false, false] rfl rfl (any_of HT_.out (by kernel_rfl)) (fun _ _ _ h => h) (Or.inl ⟨by rfl, ?_⟩) ?_ ?_
             rotate_left
             ·intro w'
              go_simp
              with_reducible rfl
             rotate_left
             ·simp only [Act.put, List.setIfInBounds_toArray, List.set_cons_zero, List.set_cons_succ, i64_w, i32_w]
              rfl
             refine take_ (i := 2) (N := some 104) (v := ?_) (a' := ?_) #[true, true, true, false, false, true, false, true, false, false, false, false, false, false] rfl rfl (take_ofW HT_.out HW_.out (by kernel_rfl)) (fun _ _ _ h => h) (Or.inl ⟨by rfl, ?_⟩) hHeld ?_ ?_
             rotate_left
             ·rintro w' ⟨s0, s1, s2, s3⟩
              go_simp
              with_reducible rfl
             rotate_left
             ·simp only [Act.put, List.setIfInBounds_toArray, List.set_cons_zero, List.set_cons_succ, i64_w, i32_w]
              rfl
             refine pure_ (i := 3) (N := some 105) (v := ?_) (a' := ?_) #[true, true, true, true, false, true, false, true, false, false, false, false, false, false] rfl rfl (any_of HT_.out (by kernel_rfl)) (fun _ _ _ h => h) (Or.inl ⟨by rfl, ?_⟩) ?_ ?_
             rotate_left
             ·intro w'
              go_simp
              with_reducible rfl
             rotate_left
             ·simp only [Act.put, List.setIfInBounds_toArray, List.set_cons_zero, List.set_cons_succ, i64_w, i32_w]
              rfl
             refine one_ (i := 4) (N := some 106) #[true, true, true, true, true, true, false, true, false, false, false, false, false, false] rfl rfl (one_of HT_.out (by kernel_rfl)) (by decide) (fun K hK => ?_)
             refine Kd.R_lit_step (Kd.int .u8) _ 5 ?hg (N := 106) ?hd (xs := ([] : List Int)) (inner := []) (ok := fun _ => True) (okp := fun _ => True) ?hr ?hp (fun _ hk => hk) trivial (Below.refl _ _) (Nat.le_refl _) (by simp) ?_; (case hd => rfl); (case hg => rfl); (case hr => first | (go_simp; done) | (go_simp; rfl)); (case hp => exact (Reps.none _ _))
             intro v299 w87 ho88 hb hg_ hnew_
             clear hg_ hnew_
             (first | rw [← Ny298.out] at ho88 | (simp only [Int.reduceToNat] at ho88; rw [← Ny298.out] at ho88))
             have n0_ := Aside0.mk (Kd.R_elder' (rQ HO_8.out) (Kd.R_base ho88) hb)
             have n1_ := Aside0.mk (Kd.R_below (rQ HO_9.out) hb)
             have n2_ := Aside0.mk (Kd.S_elder' (rQ HO_11.out) (Kd.R_base ho88) hb)
             have n3_ := Aside0.mk (Kd.R_elder' (rQ HO297.out) (Kd.R_base ho88) hb)
             have n4_ := Aside0.mk (Kd.R_lower (Kd.R_new' (Kd.R_new' ho88 (Kd.R_lt (rQ HO_8.out))) (Kd.R_lt (rQ HO297.out))) (below_size bQ))
             have n5_ := Aside0.mk (blk_below (g := gb238) (o := .cells #[.int .i64 a1_0, .int .i64 a1_1, .slice A1_2 l1_2.length c1_2, .slice A1_3 l1_3.length c1_3] 54 (0, 0)) (kQ BK238.out) hb)
             have n6_ := Aside0.mk (below_step bQ hb)
             clear HO_8
             clear HO_9
             clear HO_11
             clear HO297
             clear BK238
             clear HB
             have HO_8 := n0_
             have HO_9 := n1_
             have HO_11 := n2_
             have HO297 := n3_
             have HO300 := n4_
             have BK238 := n5_
             have HB := n6_
             clear n0_ n1_ n2_ n3_ n4_ n5_ n6_
             clear hb ho88
             obtain ⟨Ao90, co90, eo90⟩ := Kd.R_slice HO297.out
             (first | subst eo90 | (injection eo90 with f1_ f2_ f3_; have f4_ := f1_.symm; have f5_ := f3_.symm; clear f1_ f2_ f3_; subst f4_; subst f5_))
             refine hK.out _ _ ⟨(blk_cell BK238.out 0).trans rfl, (blk_cell BK238.out 1).trans rfl, (blk_cell BK238.out 2).trans rfl, (blk_cell BK238.out 3).trans rfl⟩ (fun hHeld => ?_)
             clear hK K
             refine norm_ (a' := ?_) ?_ ?_
             rotate_left
             ·show Act.put _ (some 106) _ = _
              simp only [Act.put, List.setIfInBounds_toArray, List.set_cons_zero, List.set_cons_succ, i64_w, i32_w]
              rfl
             refine one_ (i := 6) (N := some 108) #[true, true, true, true, true, true, true, true, false, false, false, false, false, false] rfl rfl (one_of HT_.out (by kernel_rfl)) (by decide) (fun K hK => ?_)
             refine Kd.R_append_rows_step (Kd.int .u8) (w0 := w) w.heap.size (by rfl) (.tmp 106) (.tmp 107) 22 5 (.int .u8 0) 1 rfl Tryz.underlying22 info5 rfl (by decide) (by omega) v299 y298 t295 _ _ _ (fun k_ => some k_ ≠ (.slice Ao18 t239.length co18 : Value).ownBlock ∧ some k_ ≠ (.slice Ao90 t295.length co90 : Value).ownBlock) (fun _ => False) rfl rfl ?aO ?aR (fun _ _ h => h) (fun _ h => h.elim) ?aF ?aB ?aS ?aL ?_
             (case aR => exact cQ (Kd.R_reads' HO297.out).2.2)
             (case aB => exact bQ)
             (case aF => exact (fun k_ hk => ⟨Kd.fresh' (Kd.R_lt (rQ HO_8.out)) k_ hk, Kd.fresh' (Kd.R_lt (rQ HO297.out)) k_ hk⟩))
             (case aO => exact (by (with_reducible repeat (first | apply Kd.R_alloc | apply Kd.R_drewN | apply Kd.R_drew)); exact Kd.R_mono HO300.out (fun _ hk => ⟨hk.1.2, hk.2⟩)))
             (case aS => exact (below_size bQ))
             (case aL => have := LMc73.out; omega)
             intro v302 w89 ho hb hg hat
             rw [← Ny301.out] at ho
             have n0_ := Aside0.mk (Kd.R_after (ok := (fun k_ => some k_ ≠ (.slice Ao90 t295.length co90 : Value).ownBlock)) (rQ HO_8.out) hg hat)
             have n1_ := Aside0.mk (Kd.R_over' (rQ HO_9.out) (Kd.R_typed (rQ HO300.out)) (by decide) hg)
             have n2_ := Aside0.mk (Kd.S_after (ok := (fun k_ => some k_ ≠ (.slice Ao18 t239.length co18 : Value).ownBlock ∧ some k_ ≠ (.slice Ao90 t295.length co90 : Value).ownBlock)) (rQ HO_11.out) hg hat)
             have n3_ := Aside0.mk (blk_grown (g := gb238) (o := .cells #[.int .i64 a1_0, .int .i64 a1_1, .slice A1_2 l1_2.length c1_2, .slice A1_3 l1_3.length c1_3] 54 (0, 0)) (kQ BK238.out) hg (Kd.R_ne HO300.out BK238.out (by decide)))
             have n4_ := Aside0.mk (Kd.R_after (ok := (fun k_ => some k_ ≠ (.slice Ao18 t239.length co18 : Value).ownBlock)) (rQ HO297.out) hg hat)
             have n5_ := Aside0.mk (hb)
             have n6_ := Aside0.mk (ho)
             clear HO_8
             clear HO_9
             clear HO_11
             clear BK238
             clear HO297
             clear HB
             clear HO300
             have HO_8 := n0_
             have HO_9 := n1_
             have HO_11 := n2_
             have BK238 := n3_
             have HO297 := n4_
             have HB := n5_
             have HO303 := n6_
             clear n0_ n1_ n2_ n3_ n4_ n5_ n6_
             clear ho hb hg hat
             refine hK.out _ _ ⟨(blk_cell BK238.out 0).trans rfl, (blk_cell BK238.out 1).trans rfl, (blk_cell BK238.out 2).trans rfl, (blk_cell BK238.out 3).trans rfl⟩ (fun hHeld => ?_)
             clear hK K
             refine norm_ (a' := ?_) ?_ ?_
             rotate_left
             ·show Act.put _ (some 108) _ = _
              simp only [Act.put, List.setIfInBounds_toArray, List.set_cons_zero, List.set_cons_succ, i64_w, i32_w]
              rfl
             refine one_ (i := 8) (N := some 110) #[true, true, true, true, true, true, true, true, true, false, false, false, false, false] rfl rfl (one_of HT_.out (by kernel_rfl)) (by decide) (fun K hK => ?_)
             refine Kd.R_append_rows_step (Kd.int .u8) (w0 := w) w.heap.size (by rfl) (.tmp 108) (.tmp 109) 22 5 (.int .u8 0) 1 rfl Tryz.underlying22 info5 rfl (by decide) (by omega) v302 y301 t295 _ _ _ (fun k_ => some k_ ≠ (.slice Ao18 t239.length co18 : Value).ownBlock ∧ some k_ ≠ (.slice Ao90 t295.length co90 : Value).ownBlock) (fun _ => False) rfl rfl ?aO ?aR (fun _ _ h => h) (fun _ h => h.elim) ?aF ?aB ?aS ?aL ?_
             (case aR => exact cQ (Kd.R_reads' HO297.out).2.2)
             (case aB => exact bQ)
             (case aF => exact (fun k_ hk => ⟨Kd.fresh' (Kd.R_lt (rQ HO_8.out)) k_ hk, Kd.fresh' (Kd.R_lt (rQ HO297.out)) k_ hk⟩))
             (case aO => exact (rQ HO303.out))
             (case aS => exact (below_size bQ))
             (case aL => have := LMc74.out; omega)
             intro v305 w91 ho hb hg hat
             rw [← Ny304.out] at ho
             have n0_ := Aside0.mk (Kd.R_after (ok := (fun k_ => some k_ ≠ (.slice Ao90 t295.length co90 : Value).ownBlock)) (rQ HO_8.out) hg hat)
             have n1_ := Aside0.mk (Kd.R_over' (rQ HO_9.out) (Kd.R_typed (rQ HO303.out)) (by decide) hg)
             have n2_ := Aside0.mk (Kd.S_after (ok := (fun k_ => some k_ ≠ (.slice Ao18 t239.length co18 : Value).ownBlock ∧ some k_ ≠ (.slice Ao90 t295.length co90 : Value).ownBlock)) (rQ HO_11.out) hg hat)
             have n3_ := Aside0.mk (blk_grown (g := gb238) (o := .cells #[.int .i64 a1_0, .int .i64 a1_1, .slice A1_2 l1_2.length c1_2, .slice A1_3 l1_3.length c1_3] 54 (0, 0)) (kQ BK238.out) hg (Kd.R_ne HO303.out BK238.out (by decide)))
             have n4_ := Aside0.mk (Kd.R_after (ok := (fun k_ => some k_ ≠ (.slice Ao18 t239.length co18 : Value).ownBlock)) (rQ HO297.out) hg hat)
             have n5_ := Aside0.mk (hb)
             have n6_ := Aside0.mk (ho)
             clear HO_8
             clear HO_9
             clear HO_11
             clear BK238
             clear HO297
             clear HB
             clear HO303
             have HO_8 := n0_
             have HO_9 := n1_
             have HO_11 := n2_
             have BK238 := n3_
             have HO297 := n4_
             have HB := n5_
             have HO306 := n6_
             clear n0_ n1_ n2_ n3_ n4_ n5_ n6_
             clear ho hb hg hat
             obtain ⟨Ao92, co92, eo92⟩ := Kd.R_slice HO306.out
             (first | subst eo92 | (injection eo92 with f1_ f2_ f3_; have f4_ := f1_.symm; have f5_ := f3_.symm; clear f1_ f2_ f3_; subst f4_; subst f5_))
             refine hK.out _ _ ⟨(blk_cell BK238.out 0).trans rfl, (blk_cell BK238.out 1).trans rfl, (blk_cell BK238.out 2).trans rfl, (blk_cell BK238.out 3).trans rfl⟩ (fun hHeld => ?_)
             clear hK K
             refine norm_ (a' := ?_) ?_ ?_
             rotate_left
             ·show Act.put _ (some 110) _ = _
              simp only [Act.put, List.setIfInBounds_toArray, List.set_cons_zero, List.set_cons_succ, i64_w, i32_w]
              rfl
             refine pure_ (i := 9) (N := some 111) (v := ?_) (a' := ?_) #[true, true, true, true, true, true, true, true, true, true, false, false, false, false] rfl rfl (any_of HT_.out (by kernel_rfl)) (fun _ _ _ h => h) (Or.inl ⟨by rfl, ?_⟩) ?_ ?_
             rotate_left
             ·intro w'
              go_simp
              with_reducible rfl
             rotate_left
             ·simp only [Act.put, List.setIfInBounds_toArray, List.set_cons_zero, List.set_cons_succ, i64_w, i32_w]
              rfl
             refine one_ (i := 10) (N := some 112) #[true, true, true, true, true, true, true, true, true, true, true, false, false, false] rfl rfl (one_of HT_.out (by kernel_rfl)) (by decide) (fun K hK => ?_)
             refine value_ (w1 := ?_) (v := ?_) (by rfl) rfl ?_ ?_
             rotate_left 2
             ·go_simp
              constructor
              ·rfl
              ·rfl
             refine hK.out _ _ ⟨(blk_cell (blk_alloc BK238.out _) 0).trans rfl, (blk_cell (blk_alloc BK238.out _) 1).trans rfl, (blk_cell (blk_alloc BK238.out _) 2).trans rfl, (blk_cell (blk_alloc BK238.out _) 3).trans rfl⟩ (fun hHeld => ?_)
             clear hK K
             refine norm_ (a' := ?_) ?_ ?_
             rotate_left
             ·show Act.put _ (some 112) _ = _
              simp only [Act.put, List.setIfInBounds_toArray, List.set_cons_zero, List.set_cons_succ, i64_w, i32_w]
              rfl
             refine one_ (i := 11) (N := some 113) #[true, true, true, true, true, true, true, true, true, true, true, true, false, false] rfl rfl (one_of HT_.out (by kernel_rfl)) (by decide) (fun K hK => ?_)
             refine Kd.S_append_step k42 (w0 := w) w.heap.size (by rfl) (.tmp 102) (.tmp 112) 25 42 (.agg #[(.int .i64 0), (.slice none 0 0)]) 32 rfl Tryz.underlying25 info42 rfl (by decide) (by omega) u11 x11_2 (⟨wrap64 (1 - a1_0), y304⟩ : S42) [.int .i64 (wrap64 (1 - a1_0)), .slice Ao92 y304.length co92] (fun k_ => some k_ ≠ (.slice Ao18 t239.length co18 : Value).ownBlock ∧ some k_ ≠ (.slice Ao90 t295.length co90 : Value).ownBlock) (fun k_ => some k_ = (.slice Ao92 y304.length co92 : Value).ownBlock) rfl rfl ?aP (fun k_ hk_ => ((Kd.R_mono (ok' := fun k_ => ((fun k_ => some k_ ≠ (.slice Ao18 t239.length co18 : Value).ownBlock ∧ some k_ ≠ (.slice Ao90 t295.length co90 : Value).ownBlock)) k_ ∧ some k_ ≠ (u11 : Value).ownBlock) (Kd.R_apart' (HO306.out) (Kd.S_typed HO_11.out) (by decide)) (fun k_ hk => ⟨⟨hk.1.1, hk.1.2⟩, hk.2⟩))).1 k_ hk_.symm) ?aF ?aO ?aB ?aS ?aL ?_
             (case aP => exact k42_mkM _ _ _ (⟨wrap64 (1 - a1_0), y304⟩ : S42) (Kd.R_mono (Kd.R_tight rfl (Kd.R_mono (ok' := fun k_ => ((fun k_ => some k_ ≠ (.slice Ao18 t239.length co18 : Value).ownBlock ∧ some k_ ≠ (.slice Ao90 t295.length co90 : Value).ownBlock)) k_ ∧ some k_ ≠ (u11 : Value).ownBlock) (Kd.R_apart' (HO306.out) (Kd.S_typed HO_11.out) (by decide)) (fun k_ hk => ⟨⟨hk.1.1, hk.1.2⟩, hk.2⟩))) (fun _ h_ => h_)))
             (case aB => exact bQ)
             (case aF => exact (fun k_ hk => ⟨Kd.fresh' (Kd.R_lt (rQ HO_8.out)) k_ hk, Kd.fresh' (Kd.R_lt (rQ HO297.out)) k_ hk⟩))
             (case aO => exact (by (with_reducible repeat (first | apply Kd.S_alloc | apply Kd.S_drewN | apply Kd.S_drew)); exact Kd.S_mono HO_11.out (fun k_ hk => ⟨⟨hk.1.1, hk.1.2⟩, fun e_ => hk.2 e_⟩)))
             (case aS => exact (below_size bQ))
             (case aL => have := LMc75.out; omega)
             intro v308 w93 ho hb hg hat
             rw [← Ny307.out] at ho
             have n0_ := Aside0.mk (Kd.R_over' (rQ HO_8.out) (Kd.S_typed (rQ HO_11.out)) (by decide) hg)
             have n1_ := Aside0.mk (Kd.R_over' (rQ HO_9.out) (Kd.S_typed (rQ HO_11.out)) (by decide) hg)
             have n2_ := Aside0.mk (blk_grown (g := gb238) (o := .cells #[.int .i64 a1_0, .int .i64 a1_1, .slice A1_2 l1_2.length c1_2, .slice A1_3 l1_3.length c1_3] 54 (0, 0)) (kQ BK238.out) hg (Kd.S_ne HO_11.out BK238.out (by decide)))
             have n3_ := Aside0.mk (Kd.R_over' (rQ HO297.out) (Kd.S_typed (rQ HO_11.out)) (by decide) hg)
             have n4_ := Aside0.mk (hb)
             have n5_ := Aside0.mk (ho)
             clear HO_8
             clear HO_9
             clear BK238
             clear HO297
             clear HB
             clear HO_11
             clear HO306
             have HO_8 := n0_
             have HO_9 := n1_
             have BK238 := n2_
             have HO297 := n3_
             have HB := n4_
             have HO309 := n5_
             clear n0_ n1_ n2_ n3_ n4_ n5_
             clear ho hb hg hat
             refine hK.out _ _ ⟨(blk_cell BK238.out 0).trans rfl, (blk_cell BK238.out 1).trans rfl, (blk_cell BK238.out 2).trans rfl, (blk_cell BK238.out 3).trans rfl⟩ (fun hHeld => ?_)
             clear hK K
             refine norm_ (a' := ?_) ?_ ?_
             rotate_left
             ·show Act.put _ (some 113) _ = _
              simp only [Act.put, List.setIfInBounds_toArray, List.set_cons_zero, List.set_cons_succ, i64_w, i32_w]
              rfl
             refine pure_ (i := 12) (N := some 6) (v := ?_) (a' := ?_) #[true, true, true, true, true, true, true, true, true, true, true, true, true, false] rfl rfl (any_of HT_.out (by kernel_rfl)) (fun _ _ _ h => h) (Or.inl ⟨by rfl, ?_⟩) ?_ ?_
             rotate_left
             ·intro w'
              go_simp
              with_reducible rfl
             rotate_left
             ·simp only [Act.put, List.setIfInBounds_toArray, List.set_cons_zero, List.set_cons_succ, i64_w, i32_w]
              rfl
             refine pure_ (i := 13) (N := some 7) (v := ?_) (a' := ?_) #[true, true, true, true, true, true, true, true, true, true, true, true, true, true] rfl rfl (any_of HT_.out (by kernel_rfl)) (fun _ _ _ h => h) (Or.inl ⟨by rfl, ?_⟩) ?_ ?_
             rotate_left
             ·intro w'
              go_simp
              with_reducible rfl
             rotate_left
             ·simp only [Act.put, List.setIfInBounds_toArray, List.set_cons_zero, List.set_cons_succ, i64_w, i32_w]
              rfl
             refine done_ (done_of HT_.out (by kernel_rfl)) ?_
             try go_wp2
             go_ret2
             exact ⟨_, eQ, by (with_reducible repeat (first | apply Kd.S_alloc | apply Kd.S_drewN | apply Kd.S_drew)); exact Kd.S_mono HO309.out (fun _ hk => trivial), bQ⟩
            ·rw [if_neg c75] at H
             exact absurd H (by simp)
           ·rw [if_neg c74] at H
            exact absurd H (by simp)
          ·rw [if_neg c73] at H
           exact absurd H (by simp)
         ·rw [if_neg c71] at H
          exact absurd H (by simp)
        ·rw [if_neg c69] at H
         exact absurd H (by simp)
       ·rw [if_neg c68] at H
        have c68b0 : decide (0 < (wrap64 (Int.tdiv (wrap64 ((wrap64 ((t239.length : Int) + 62)) - 1)) 62))) = false := decide_eq_false c68
        clear c68
        replace H := Option.bind_eq_some_iff.mp H
        obtain ⟨t310, A940, H⟩ := H
        have A94 := Aside0.mk A940
        clear A940
        by_cases c95 : t310.length + 18 < 140737488355328
        ·rw [if_pos c95] at H
         have LMc95 := Aside0.mk c95
         clear c95
         obtain ⟨y313, hy313⟩ : ∃ y_ : List Int, y_ = (t310 ++ List.replicate 18 0) := ⟨_, rfl⟩
         replace H : ((berylref20_putLong.f k2 y313 (wrap64 (a1_1 + 1))).bind fun t316 => ((some (([] : List Int) : List Int)).bind fun y319 => (if y319.length + t316.length < 140737488355328 then ((some (y319 ++ t316 : List Int)).bind fun y322 => (if y322.length + t316.length < 140737488355328 then (if x11_2.length < 4398046511104 then (some ((x11_2 ++ [(⟨wrap64 (1 - a1_0), (y322 ++ t316)⟩ : S42)]), 0)) else (none)) else (none))) else (none)))) = some (r1, r2) := by first | (rw [hy313]; with_reducible exact H) | (have H2_ := (Option.bind_some _ _).symm.trans H; rw [hy313]; with_reducible exact H2_) | (have H2_ := (Option.bind_some _ _).symm.trans H; with_reducible exact H2_) | with_reducible exact H | (rw [hy313]; exact H) | exact H
         have Ny313 := Aside0.mk hy313
         clear hy313
         replace H := Option.bind_eq_some_iff.mp H
         obtain ⟨t316, A960, H⟩ := H
         have A96 := Aside0.mk A960
         clear A960
         obtain ⟨y319, hy319⟩ : ∃ y_ : List Int, y_ = (([] : List Int)) := ⟨_, rfl⟩
         replace H : (if y319.length + t316.length < 140737488355328 then ((some (y319 ++ t316 : List Int)).bind fun y322 => (if y322.length + t316.length < 140737488355328 then (if x11_2.length < 4398046511104 then (some ((x11_2 ++ [(⟨wrap64 (1 - a1_0), (y322 ++ t316)⟩ : S42)]), 0)) else (none)) else (none))) else (none)) = some (r1, r2) := by first | (rw [hy319]; with_reducible exact H) | (have H2_ := (Option.bind_some _ _).symm.trans H; rw [hy319]; with_reducible exact H2_) | (have H2_ := (Option.bind_some _ _).symm.trans H; with_reducible exact H2_) | with_reducible exact H | (rw [hy319]; exact H) | exact H
         have Ny319 := Aside0.mk hy319
         clear hy319
         by_cases c97 : y319.length + t316.length < 140737488355328
         ·rw [if_pos c97] at H
          have LMc97 := Aside0.mk c97
          clear c97
          obtain ⟨y322, hy322⟩ : ∃ y_ : List Int, y_ = (y319 ++ t316) := ⟨_, rfl⟩
          replace H : (if y322.length + t316.length < 140737488355328 then (if x11_2.length < 4398046511104 then (some ((x11_2 ++ [(⟨wrap64 (1 - a1_0), (y322 ++ t316)⟩ : S42)]), 0)) else (none)) else (none)) = some (r1, r2) := by first | (rw [hy322]; with_reducible exact H) | (have H2_ := (Option.bind_some _ _).symm.trans H; rw [hy322]; with_reducible exact H2_) | (have H2_ := (Option.bind_some _ _).symm.trans H; with_reducible exact H2_) | with_reducible exact H | (rw [hy322]; exact H) | exact H
          have Ny322 := Aside0.mk hy322
          clear hy322
          by_cases c98 : y322.length + t316.length < 140737488355328
          ·rw [if_pos c98] at H
           have LMc98 := Aside0.mk c98
           clear c98
           obtain ⟨y325, hy325⟩ : ∃ y_ : List Int, y_ = (y322 ++ t316) := ⟨_, rfl⟩
           replace H : (if x11_2.length < 4398046511104 then (some ((x11_2 ++ [(⟨wrap64 (1 - a1_0), y325⟩ : S42)]), 0)) else (none)) = some (r1, r2) := by first | (rw [hy325]; with_reducible exact H) | (have H2_ := (Option.bind_some _ _).symm.trans H; rw [hy325]; with_reducible exact H2_) | (have H2_ := (Option.bind_some _ _).symm.trans H; with_reducible exact H2_) | with_reducible exact H | (rw [hy325]; exact H) | exact H
           have Ny325 := Aside0.mk hy325
           clear hy325
           by_cases c99 : x11_2.length < 4398046511104
           ·rw [if_pos c99] at H
            have LMc99 := Aside0.mk c99
            clear c99
            obtain ⟨y328, hy328⟩ : ∃ y_ : List (S42), y_ = (x11_2 ++ [(⟨wrap64 (1 - a1_0), y325⟩ : S42)]) := ⟨_, rfl⟩
            replace H : (some (y328, 0)) = some (r1, r2) := by first | (rw [hy328]; with_reducible exact H) | (have H2_ := (Option.bind_some _ _).symm.trans H; rw [hy328]; with_reducible exact H2_) | (have H2_ := (Option.bind_some _ _).symm.trans H; with_reducible exact H2_) | with_reducible exact H | (rw [hy328]; exact H) | exact H
            have Ny328 := Aside0.mk hy328
            clear hy328
            simp only [Option.some.injEq, Prod.mk.injEq] at H
            obtain ⟨rfl, rfl⟩ := H
            go_wp2_with fail
            (refine (berylref20_putWord.calls (fun k_ => some k_ = (.slice none 0 0 : Value).ownBlock) (.slice none 0 0) ([] : List Int) (wrap64 (Int.tdiv (wrap64 ((wrap64 ((t239.length : Int) + 62)) - 1)) 62)) t282 w _ ?side1 ?side2 A66.out).mono ?_)
            (case side1 => repeat (first | (with_reducible first | exact HB.out | apply below_alloc | apply pw_below_drewN | apply below_drew1 | refine below_set ?_ GE238.out) | exact HB.out))
            (case side2 => exact Kd.R_nil _ _ _ _ _)
            rintro e w100 ⟨v283, rfl, ho0, hb, hkp⟩
            have n0_ := Aside0.mk (Kd.R_mono (ok' := fun k_ => some k_ ≠ (v283 : Value).ownBlock) (Kd.R_keptB (HO_8.out) hkp (fun k_ hk_ hs_ => (fun e_ => by simp [Value.ownBlock] at e_) hs_)) (fun k_ hk_ => fun e_ => Or.elim (ho0.1 k_ e_.symm) (fun hs_ => hk_.2.1 hs_) (fun hn_ => Nat.not_le.2 hk_.2.2 hn_)))
            have n1_ := Aside0.mk (Kd.R_mono (ok' := fun k_ => True) (Kd.R_keptB (HO_9.out) hkp (fun k_ hk_ hs_ => (fun e_ => by simp [Value.ownBlock] at e_) hs_)) (fun k_ hk_ => trivial))
            have n2_ := Aside0.mk (Kd.S_mono (ok' := fun k_ => some k_ ≠ (.slice Ao18 t239.length co18 : Value).ownBlock ∧ some k_ ≠ (v283 : Value).ownBlock) (Kd.S_keptB (HO_11.out) hkp (fun k_ hk_ hs_ => (fun e_ => by simp [Value.ownBlock] at e_) hs_)) (fun k_ hk_ => ⟨hk_.1, fun e_ => Or.elim (ho0.1 k_ e_.symm) (fun hs_ => hk_.2.1 hs_) (fun hn_ => Nat.not_le.2 hk_.2.2 hn_)⟩))
            have n3_ := Aside0.mk (blk_kept (kQ BK238.out) hkp (fun hs_ => (fun e_ => by simp [Value.ownBlock] at e_) hs_))
            have n4_ := Aside0.mk (Kd.R_mono (ok' := fun k_ => some k_ ≠ (.slice Ao18 t239.length co18 : Value).ownBlock) ho0 (fun k_ hk_ => Or.elim hk_ (fun hs_ => absurd hs_ (by simp [Value.ownBlock])) (fun hn_ => (Kd.fresh' (Kd.R_lt (rQ HO_8.out)) k_ hn_))))
            have n5_ := Aside0.mk (hb)
            clear HO_8
            clear HO_9
            clear HO_11
            clear BK238
            clear HB
            have HO_8 := n0_
            have HO_9 := n1_
            have HO_11 := n2_
            have BK238 := n3_
            have HO284 := n4_
            have HB := n5_
            clear n0_ n1_ n2_ n3_ n4_ n5_
            (try clear hb)
            (try clear hkp)
            (try clear ho0)
            obtain ⟨Ao101, co101, eo101⟩ := Kd.R_slice HO284.out
            subst eo101
            go_wp2_with fail
            (with_reducible refine (berylref20_putWord.calls (fun k_ => some k_ = (.slice Ao101 t282.length co101 : Value).ownBlock) (.slice Ao101 t282.length co101) t282 (t239.length : Int) t285 w _ ?side1 ?side2 A67.out).mono ?_)
            (case side1 => repeat (first | (with_reducible first | exact HB.out | apply below_alloc | apply pw_below_drewN | apply below_drew1 | refine below_set ?_ GE238.out) | exact HB.out))
            (case side2 => exact Kd.R_tight rfl HO284.out)
            rintro e w102 ⟨v286, rfl, ho0, hb, hkp⟩
            have n0_ := Aside0.mk (Kd.R_mono (ok' := fun k_ => some k_ ≠ (v286 : Value).ownBlock) (Kd.R_keptB (HO_8.out) hkp (fun k_ hk_ hs_ => (hk_) hs_)) (fun k_ hk_ => fun e_ => Or.elim (ho0.1 k_ e_.symm) (fun hs_ => hk_.2.1 hs_) (fun hn_ => Nat.not_le.2 hk_.2.2 hn_)))
            have n1_ := Aside0.mk (Kd.R_mono (ok' := fun k_ => True) (Kd.R_keptB ((Kd.R_apart' HO_9.out (Kd.R_typed HO284.out) (by decide))) hkp (fun k_ hk_ hs_ => (hk_.2) hs_)) (fun k_ hk_ => trivial))
            have n2_ := Aside0.mk (Kd.S_mono (ok' := fun k_ => some k_ ≠ (.slice Ao18 t239.length co18 : Value).ownBlock ∧ some k_ ≠ (v286 : Value).ownBlock) (Kd.S_keptB (HO_11.out) hkp (fun k_ hk_ hs_ => (hk_.2) hs_)) (fun k_ hk_ => ⟨hk_.1.1, fun e_ => Or.elim (ho0.1 k_ e_.symm) (fun hs_ => hk_.2.1 hs_) (fun hn_ => Nat.not_le.2 hk_.2.2 hn_)⟩))
            have n3_ := Aside0.mk (blk_kept (kQ BK238.out) hkp (fun hs_ => (fun e_ => (Kd.R_ne HO284.out BK238.out (by decide)) e_) hs_))
            have n4_ := Aside0.mk (Kd.R_mono (ok' := fun k_ => some k_ ≠ (.slice Ao18 t239.length co18 : Value).ownBlock) ho0 (fun k_ hk_ => Or.elim hk_ (fun hs_ => fun e_ => (((HO_8.out).1 k_ e_.symm)) hs_) (fun hn_ => (Kd.fresh' (Kd.R_lt (rQ HO_8.out)) k_ hn_))))
            have n5_ := Aside0.mk (hb)
            clear HO_8
            clear HO_9
            clear HO_11
            clear BK238
            clear HB
            clear HO284
            have HO_8 := n0_
            have HO_9 := n1_
            have HO_11 := n2_
            have BK238 := n3_
            have HO287 := n4_
            have HB := n5_
            clear n0_ n1_ n2_ n3_ n4_ n5_
            (try clear hb)
            (try clear hkp)
            (try clear ho0)
            obtain ⟨Ao103, co103, eo103⟩ := Kd.R_slice HO287.out
            subst eo103
            go_wp2_with fail
            (with_reducible refine (berylref20_putWord.calls (fun k_ => some k_ = (.slice Ao103 t285.length co103 : Value).ownBlock) (.slice Ao103 t285.length co103) t285 0 t310 w _ ?side1 ?side2 A94.out).mono ?_)
            (case side1 => repeat (first | (with_reducible first | exact HB.out | apply below_alloc | apply pw_below_drewN | apply below_drew1 | refine below_set ?_ GE238.out) | exact HB.out))
            (case side2 => exact Kd.R_tight rfl HO287.out)
            rintro e w104 ⟨v311, rfl, ho0, hb, hkp⟩
            have n0_ := Aside0.mk (Kd.R_mono (ok' := fun k_ => some k_ ≠ (v311 : Value).ownBlock) (Kd.R_keptB (HO_8.out) hkp (fun k_ hk_ hs_ => (hk_) hs_)) (fun k_ hk_ => fun e_ => Or.elim (ho0.1 k_ e_.symm) (fun hs_ => hk_.2.1 hs_) (fun hn_ => Nat.not_le.2 hk_.2.2 hn_)))
            have n1_ := Aside0.mk (Kd.R_mono (ok' := fun k_ => True) (Kd.R_keptB ((Kd.R_apart' HO_9.out (Kd.R_typed HO287.out) (by decide))) hkp (fun k_ hk_ hs_ => (hk_.2) hs_)) (fun k_ hk_ => trivial))
            have n2_ := Aside0.mk (Kd.S_mono (ok' := fun k_ => some k_ ≠ (.slice Ao18 t239.length co18 : Value).ownBlock ∧ some k_ ≠ (v311 : Value).ownBlock) (Kd.S_keptB (HO_11.out) hkp (fun k_ hk_ hs_ => (hk_.2) hs_)) (fun k_ hk_ => ⟨hk_.1.1, fun e_ => Or.elim (ho0.1 k_ e_.symm) (fun hs_ => hk_.2.1 hs_) (fun hn_ => Nat.not_le.2 hk_.2.2 hn_)⟩))
            have n3_ := Aside0.mk (blk_kept (kQ BK238.out) hkp (fun hs_ => (fun e_ => (Kd.R_ne HO287.out BK238.out (by decide)) e_) hs_))
            have n4_ := Aside0.mk (Kd.R_mono (ok' := fun k_ => some k_ ≠ (.slice Ao18 t239.length co18 : Value).ownBlock) ho0 (fun k_ hk_ => Or.elim hk_ (fun hs_ => fun e_ => (((HO_8.out).1 k_ e_.symm)) hs_) (fun hn_ => (Kd.fresh' (Kd.R_lt (rQ HO_8.out)) k_ hn_))))
            have n5_ := Aside0.mk (hb)
            clear HO_8
            clear HO_9
            clear HO_11
            clear BK238
            clear HB
            clear HO287
            have HO_8 := n0_
            have HO_9 := n1_
            have HO_11 := n2_
            have BK238 := n3_
            have HO312 := n4_
            have HB := n5_
            clear n0_ n1_ n2_ n3_ n4_ n5_
            (try clear hb)
            (try clear hkp)
            (try clear ho0)
            go_wp2_with (first | (at_builtin; refine Kd.R_append_zeros (Kd.int .u8) (w0 := w) w.heap.size rfl (.tmp 95) (.const (.int .i64 18)) 22 3 5 (.int .u8 0) 1 rfl Tryz.underlying22 Tryz.underlying3 info5 rfl (by decide) (by omega) v311 t310 0 (18 : Int) (fun k_ => some k_ ≠ (.slice Ao18 t239.length co18 : Value).ownBlock) rfl rfl rfl ?aF ?aO (by omega) ?aB ?aS ?aL ?_; (case aB => exact bQ); (case aF => exact (fun k_ hk => Kd.fresh' (Kd.R_lt (rQ HO_8.out)) k_ hk)); (case aO => exact (rQ HO312.out)); (case aS => exact (below_size bQ)); (case aL => have := LMc95.out; omega); intro v314 w105 ho hb hg hat; rw [show (18 : Int).toNat = 18 from rfl, ← Ny313.out] at ho; have n0_ := Aside0.mk (Kd.R_after (ok := (fun _ => True)) (by (with_reducible repeat (first | apply Kd.R_alloc | apply Kd.R_drewN | apply Kd.R_drew)); exact Kd.R_mono HO_8.out (fun _ hk => ⟨trivial, hk⟩)) hg hat); have n1_ := Aside0.mk (Kd.R_over' (rQ HO_9.out) (Kd.R_typed (rQ HO312.out)) (by decide) hg); have n2_ := Aside0.mk (Kd.S_after (ok := (fun k_ => some k_ ≠ (.slice Ao18 t239.length co18 : Value).ownBlock)) (rQ HO_11.out) hg hat); have n3_ := Aside0.mk (blk_grown (g := gb238) (o := .cells #[.int .i64 a1_0, .int .i64 a1_1, .slice A1_2 l1_2.length c1_2, .slice A1_3 l1_3.length c1_3] 54 (0, 0)) (kQ BK238.out) hg (Kd.R_ne HO312.out BK238.out (by decide))); have n4_ := Aside0.mk (hb); have n5_ := Aside0.mk (ho); clear HO_8; clear HO_9; clear HO_11; clear BK238; clear HB; clear HO312; have HO_8 := n0_; have HO_9 := n1_; have HO_11 := n2_; have BK238 := n3_; have HB := n4_; have HO315 := n5_; clear n0_ n1_ n2_ n3_ n4_ n5_; clear ho hb hg hat; have hcz106_0 : w105.cell? ⟨gb238, 0, none⟩ = some (.int .i64 a1_0) := (blk_cell BK238.out 0).trans rfl; have hcz106_1 : w105.cell? ⟨gb238, 1, none⟩ = some (.int .i64 a1_1) := (blk_cell BK238.out 1).trans rfl; have hcz106_2 : w105.cell? ⟨gb238, 2, none⟩ = some (.slice A1_2 l1_2.length c1_2) := (blk_cell BK238.out 2).trans rfl; have hcz106_3 : w105.cell? ⟨gb238, 3, none⟩ = some (.slice A1_3 l1_3.length c1_3) := (blk_cell BK238.out 3).trans rfl; have hfz106_0 := blk_frozen BK238.out 0; have hfz106_1 := blk_frozen BK238.out 1; have hfz106_2 := blk_frozen BK238.out 2; have hfz106_3 := blk_frozen BK238.out 3; obtain ⟨Ao107, co107, eo107⟩ := Kd.R_slice HO315.out; subst eo107))
            (with_reducible refine (berylref20_putLong.calls k2 (fun k_ => some k_ = (.slice Ao107 y313.length co107 : Value).ownBlock) (.slice Ao107 y313.length co107) y313 (wrap64 (a1_1 + 1)) t316 w _ ?side1 ?side2 A96.out).mono ?_)
            (case side1 => repeat (first | (with_reducible first | exact HB.out | apply below_alloc | apply pw_below_drewN | apply below_drew1 | refine below_set ?_ GE238.out) | exact HB.out))
            (case side2 => exact Kd.R_tight rfl HO315.out)
            rintro e w108 ⟨v317, rfl, ho0, hb, hkp⟩
            have n0_ := Aside0.mk (Kd.R_mono (ok' := fun k_ => some k_ ≠ (v317 : Value).ownBlock) (Kd.R_keptB (HO_8.out) hkp (fun k_ hk_ hs_ => (hk_.2) hs_)) (fun k_ hk_ => fun e_ => Or.elim (ho0.1 k_ e_.symm) (fun hs_ => hk_.2.1 hs_) (fun hn_ => Nat.not_le.2 hk_.2.2 hn_)))
            have n1_ := Aside0.mk (Kd.R_mono (ok' := fun k_ => True) (Kd.R_keptB ((Kd.R_apart' HO_9.out (Kd.R_typed HO315.out) (by decide))) hkp (fun k_ hk_ hs_ => (hk_.2) hs_)) (fun k_ hk_ => trivial))
            have n2_ := Aside0.mk (Kd.S_mono (ok' := fun k_ => some k_ ≠ (.slice Ao18 t239.length co18 : Value).ownBlock ∧ some k_ ≠ (v317 : Value).ownBlock) (Kd.S_keptB (HO_11.out) hkp (fun k_ hk_ hs_ => (hk_.2) hs_)) (fun k_ hk_ => ⟨hk_.1.1, fun e_ => Or.elim (ho0.1 k_ e_.symm) (fun hs_ => hk_.2.1 hs_) (fun hn_ => Nat.not_le.2 hk_.2.2 hn_)⟩))
            have n3_ := Aside0.mk (blk_kept (kQ BK238.out) hkp (fun hs_ => (fun e_ => (Kd.R_ne HO315.out BK238.out (by decide)) e_) hs_))
            have n4_ := Aside0.mk (Kd.R_mono (ok' := fun k_ => some k_ ≠ (.slice Ao18 t239.length co18 : Value).ownBlock) ho0 (fun k_ hk_ => Or.elim hk_ (fun hs_ => fun e_ => (((HO_8.out).1 k_ e_.symm).2) hs_) (fun hn_ => (Kd.fresh' (Kd.R_lt (rQ HO_8.out)) k_ hn_))))
            have n5_ := Aside0.mk (hb)
            clear HO_8
            clear HO_9
            clear HO_11
            clear BK238
            clear HB
            clear HO315
            have HO_8 := n0_
            have HO_9 := n1_
            have HO_11 := n2_
            have BK238 := n3_
            have HO318 := n4_
            have HB := n5_
            clear n0_ n1_ n2_ n3_ n4_ n5_
            (try clear hb)
            (try clear hkp)
            (try clear ho0)
            try go_wp2_with fail
            have n0_ := Aside0.mk (Kd.R_drew HO_8.out)
            have n1_ := Aside0.mk (Kd.R_drew HO_9.out)
            have n2_ := Aside0.mk (Kd.S_drew HO_11.out)
            have n3_ := Aside0.mk (Kd.R_drew HO318.out)
            have n4_ := Aside0.mk (blk_drew BK238.out)
            have n5_ := Aside0.mk (below_drew1 HB.out)
            clear HO_8
            clear HO_9
            clear HO_11
            clear HO318
            clear BK238
            clear HB
            have HO_8 := n0_
            have HO_9 := n1_
            have HO_11 := n2_
            have HO318 := n3_
            have BK238 := n4_
            have HB := n5_
            clear n0_ n1_ n2_ n3_ n4_ n5_
            refine start_ (n := 14) (S := fun w' => w'.cell? ⟨gb238, 0, none⟩ = some (.int .i64 a1_0) ∧ w'.cell? ⟨gb238, 1, none⟩ = some (.int .i64 a1_1) ∧ w'.cell? ⟨gb238, 2, none⟩ = some (.slice A1_2 l1_2.length c1_2) ∧ w'.cell? ⟨gb238, 3, none⟩ = some (.slice A1_3 l1_3.length c1_3)) (ds := []) #[false, false, false, false, false, false, false, false, false, false, false, false, false, false] (by kernel_rfl) rfl rfl ⟨(blk_cell BK238.out 0).trans rfl, (blk_cell BK238.out 1).trans rfl, (blk_cell BK238.out 2).trans rfl, (blk_cell BK238.out 3).trans rfl⟩ (fun hHeld => ?_); refine with_tabW berylref20_writes.tab25 berylref20_writes.bits25 (fun HT_ HW_ => ?_)
            generalize w108.drew = w109 at HO_8 HO_9 HO_11 HO318 BK238 HB hHeld ⊢
            refine pure_ (i := 0) (N := some 102) (v := ?_) (a' := ?_) #[true, false, false, false, false, false, false, false, false, false, false, false, false, false] rfl rfl (any_of HT_.out (by kernel_rfl)) (fun _ _ _ h => h) (Or.inl ⟨by rfl, ?_⟩) ?_ ?_
            rotate_left
            ·intro w'
             go_simp
             with_reducible rfl
            rotate_left
            ·simp only [Act.put, List.setIfInBounds_toArray, List.set_cons_zero, List.set_cons_succ, i64_w, i32_w]
             rfl
            refine pure_ (i := 1) (N := some 103) (v := ?_) (a' := ?_) #[true, true, false, false, false, false, false, false, false, false, false, false, false, false] rfl rfl (any_of HT_.out (by kernel_rfl)) (fun _ _ _ h => h) (Or.inl ⟨by rfl, ?_⟩) ?_ ?_
            rotate_left
            ·intro w'
             go_simp
             with_reducible rfl
            rotate_left
            ·simp only [Act.put, List.setIfInBounds_toArray, List.set_cons_zero, List.set_cons_succ, i64_w, i32_w]
             rfl
            refine pure_ (i := 5) (N := some 107) (v := ?_) (a' := ?_) #[true, true, false, false, false, true, false, false, false, false, false, false, false, false] rfl rfl (any_of HT_.out (by kernel_rfl)) (fun _ _ _ h => h) (Or.inl ⟨by rfl, ?_⟩) ?_ ?_
            rotate_left
            ·intro w'
             go_simp
             with_reducible rfl
            rotate_left
            ·simp only [Act.put, List.setIfInBounds_toArray, List.set_cons_zero, List.set_cons_succ, i64_w, i32_w]
             rfl
            refine pure_ (i := 7) (N := some 109) (v := ?_) (a' := ?_) #[true, true, false, false, false, true, false, true, false, false, false, false, false, false] rfl rfl (any_of HT_.out (by kernel_rfl)) (fun _ _ _ h => h) (Or.inl ⟨by rfl, ?_⟩) ?_ ?_
            rotate_left
            ·intro w'
             go_simp
             with_reducible rfl
            rotate_left
            ·simp only [Act.put, List.setIfInBounds_toArray, List.set_cons_zero, List.set_cons_succ, i64_w, i32_w]
             rfl
            refine take_ (i := 2) (N := some 104) (v := ?_) (a' := ?_) #[true, true, true, false, false, true, false, true, false, false, false, false, false, false] rfl rfl (take_ofW HT_.out HW_.out (by kernel_rfl)) (fun _ _ _ h => h) (Or.inl ⟨by rfl, ?_⟩) hHeld ?_ ?_
            rotate_left
            ·rintro w' ⟨s0, s1, s2, s3⟩
             go_simp
             with_reducible rfl
            rotate_left
            ·simp only [Act.put, List.setIfInBounds_toArray, List.set_cons_zero, List.set_cons_succ, i64_w, i32_w]
             rfl
            refine pure_ (i := 3) (N := some 105) (v := ?_) (a' := ?_) #[true, true, true, true, false, true, false, true, false, false, false, false, false, false] rfl rfl (any_of HT_.out (by kernel_rfl)) (fun _ _ _ h => h) (Or.inl ⟨by rfl, ?_⟩) ?_ ?_
            rotate_left
            ·intro w'
             go_simp
             with_reducible rfl
            rotate_left
            ·simp only [Act.put, List.setIfInBounds_toArray, List.set_cons_zero, List.set_cons_succ, i64_w, i32_w]
             rfl
            refine one_ (i := 4) (N := some 106) #[true, true, true, true, true, true, false, true, false, false, false, false, false, false] rfl rfl (one_of HT_.out (by kernel_rfl)) (by decide) (fun K hK => ?_)
            refine Kd.R_lit_step (Kd.int .u8) _ 5 ?hg (N := 106) ?hd (xs := ([] : List Int)) (inner := []) (ok := fun _ => True) (okp := fun _ => True) ?hr ?hp (fun _ hk => hk) trivial (Below.refl _ _) (Nat.le_refl _) (by simp) ?_; (case hd => rfl); (case hg => rfl); (case hr => first | (go_simp; done) | (go_simp; rfl)); (case hp => exact (Reps.none _ _))
            intro v320 w110 ho111 hb hg_ hnew_
            clear hg_ hnew_
            (first | rw [← Ny319.out] at ho111 | (simp only [Int.reduceToNat] at ho111; rw [← Ny319.out] at ho111))
            have n0_ := Aside0.mk (Kd.R_elder' (rQ HO_8.out) (Kd.R_base ho111) hb)
            have n1_ := Aside0.mk (Kd.R_below (rQ HO_9.out) hb)
            have n2_ := Aside0.mk (Kd.S_elder' (rQ HO_11.out) (Kd.R_base ho111) hb)
            have n3_ := Aside0.mk (Kd.R_elder' (rQ HO318.out) (Kd.R_base ho111) hb)
            have n4_ := Aside0.mk (Kd.R_lower (Kd.R_new' (Kd.R_new' ho111 (Kd.R_lt (rQ HO_8.out))) (Kd.R_lt (rQ HO318.out))) (below_size bQ))
            have n5_ := Aside0.mk (blk_below (g := gb238) (o := .cells #[.int .i64 a1_0, .int .i64 a1_1, .slice A1_2 l1_2.length c1_2, .slice A1_3 l1_3.length c1_3] 54 (0, 0)) (kQ BK238.out) hb)
            have n6_ := Aside0.mk (below_step bQ hb)
            clear HO_8
            clear HO_9
            clear HO_11
            clear HO318
            clear BK238
            clear HB
            have HO_8 := n0_
            have HO_9 := n1_
            have HO_11 := n2_
            have HO318 := n3_
            have HO321 := n4_
            have BK238 := n5_
            have HB := n6_
            clear n0_ n1_ n2_ n3_ n4_ n5_ n6_
            clear hb ho111
            obtain ⟨Ao113, co113, eo113⟩ := Kd.R_slice HO318.out
            (first | subst eo113 | (injection eo113 with f1_ f2_ f3_; have f4_ := f1_.symm; have f5_ := f3_.symm; clear f1_ f2_ f3_; subst f4_; subst f5_))
            refine hK.out _ _ ⟨(blk_cell BK238.out 0).trans rfl, (blk_cell BK238.out 1).trans rfl, (blk_cell BK238.out 2).trans rfl, (blk_cell BK238.out 3).trans rfl⟩ (fun hHeld => ?_)
            clear hK K
            refine norm_ (a' := ?_) ?_ ?_
            rotate_left
            ·show Act.put _ (some 106) _ = _
             simp only [Act.put, List.setIfInBounds_toArray, List.set_cons_zero, List.set_cons_succ, i64_w, i32_w]
             rfl
            refine one_ (i := 6) (N := some 108) #[true, true, true, true, true, true, true, true, false, false, false, false, false, false] rfl rfl (one_of HT_.out (by kernel_rfl)) (by decide) (fun K hK => ?_)
            refine Kd.R_append_rows_step (Kd.int .u8) (w0 := w) w.heap.size (by rfl) (.tmp 106) (.tmp 107) 22 5 (.int .u8 0) 1 rfl Tryz.underlying22 info5 rfl (by decide) (by omega) v320 y319 t316 _ _ _ (fun k_ => some k_ ≠ (.slice Ao18 t239.length co18 : Value).ownBlock ∧ some k_ ≠ (.slice Ao113 t316.length co113 : Value).ownBlock) (fun _ => False) rfl rfl ?aO ?aR (fun _ _ h => h) (fun _ h => h.elim) ?aF ?aB ?aS ?aL ?_
            (case aR => exact cQ (Kd.R_reads' HO318.out).2.2)
            (case aB => exact bQ)
            (case aF => exact (fun k_ hk => ⟨Kd.fresh' (Kd.R_lt (rQ HO_8.out)) k_ hk, Kd.fresh' (Kd.R_lt (rQ HO318.out)) k_ hk⟩))
            (case aO => exact (by (with_reducible repeat (first | apply Kd.R_alloc | apply Kd.R_drewN | apply Kd.R_drew)); exact Kd.R_mono HO321.out (fun _ hk => ⟨hk.1.2, hk.2⟩)))
            (case aS => exact (below_size bQ))
            (case aL => have := LMc97.out; omega)
            intro v323 w112 ho hb hg hat
            rw [← Ny322.out] at ho
            have n0_ := Aside0.mk (Kd.R_after (ok := (fun k_ => some k_ ≠ (.slice Ao113 t316.length co113 : Value).ownBlock)) (rQ HO_8.out) hg hat)
            have n1_ := Aside0.mk (Kd.R_over' (rQ HO_9.out) (Kd.R_typed (rQ HO321.out)) (by decide) hg)
            have n2_ := Aside0.mk (Kd.S_after (ok := (fun k_ => some k_ ≠ (.slice Ao18 t239.length co18 : Value).ownBlock ∧ some k_ ≠ (.slice Ao113 t316.length co113 : Value).ownBlock)) (rQ HO_11.out) hg hat)
            have n3_ := Aside0.mk (blk_grown (g := gb238) (o := .cells #[.int .i64 a1_0, .int .i64 a1_1, .slice A1_2 l1_2.length c1_2, .slice A1_3 l1_3.length c1_3] 54 (0, 0)) (kQ BK238.out) hg (Kd.R_ne HO321.out BK238.out (by decide)))
            have n4_ := Aside0.mk (Kd.R_after (ok := (fun k_ => some k_ ≠ (.slice Ao18 t239.length co18 : Value).ownBlock)) (rQ HO318.out) hg hat)
            have n5_ := Aside0.mk (hb)
            have n6_ := Aside0.mk (ho)
            clear HO_8
            clear HO_9
            clear HO_11
            clear BK238
            clear HO318
            clear HB
            clear HO321
            have HO_8 := n0_
            have HO_9 := n1_
            have HO_11 := n2_
            have BK238 := n3_
            have HO318 := n4_
            have HB := n5_
            have HO324 := n6_
            clear n0_ n1_ n2_ n3_ n4_ n5_ n6_
            clear ho hb hg hat
            refine hK.out _ _ ⟨(blk_cell BK238.out 0).trans rfl, (blk_cell BK238.out 1).trans rfl, (blk_cell BK238.out 2).trans rfl, (blk_cell BK238.out 3).trans rfl⟩ (fun hHeld => ?_)
            clear hK K
            refine norm_ (a' := ?_) ?_ ?_
            rotate_left
            ·show Act.put _ (some 108) _ = _
             simp only [Act.put, List.setIfInBounds_toArray, List.set_cons_zero, List.set_cons_succ, i64_w, i32_w]
             rfl
            refine one_ (i := 8) (N := some 110) #[true, true, true, true, true, true, true, true, true, false, false, false, false, false] rfl rfl (one_of HT_.out (by kernel_rfl)) (by decide) (fun K hK => ?_)
            refine Kd.R_append_rows_step (Kd.int .u8) (w0 := w) w.heap.size (by rfl) (.tmp 108) (.tmp 109) 22 5 (.int .u8 0) 1 rfl Tryz.underlying22 info5 rfl (by decide) (by omega) v323 y322 t316 _ _ _ (fun k_ => some k_ ≠ (.slice Ao18 t239.length co18 : Value).ownBlock ∧ some k_ ≠ (.slice Ao113 t316.length co113 : Value).ownBlock) (fun _ => False) rfl rfl ?aO ?aR (fun _ _ h => h) (fun _ h => h.elim) ?aF ?aB ?aS ?aL ?_
            (case aR => exact cQ (Kd.R_reads' HO318.out).2.2)
            (case aB => exact bQ)
            (case aF => exact (fun k_ hk => ⟨Kd.fresh' (Kd.R_lt (rQ HO_8.out)) k_ hk, Kd.fresh' (Kd.R_lt (rQ HO318.out)) k_ hk⟩))
            (case aO => exact (rQ HO324.out))
            (case aS => exact (below_size bQ))
            (case aL => have := LMc98.out; omega)
            intro v326 w114 ho hb hg hat
            rw [← Ny325.out] at ho
            have n0_ := Aside0.mk (Kd.R_after (ok := (fun k_ => some k_ ≠ (.slice Ao113 t316.length co113 : Value).ownBlock)) (rQ HO_8.out) hg hat)
            have n1_ := Aside0.mk (Kd.R_over' (rQ HO_9.out) (Kd.R_typed (rQ HO324.out)) (by decide) hg)
            have n2_ := Aside0.mk (Kd.S_after (ok := (fun k_ => some k_ ≠ (.slice Ao18 t239.length co18 : Value).ownBlock ∧ some k_ ≠ (.slice Ao113 t316.length co113 : Value).ownBlock)) (rQ HO_11.out) hg hat)
            have n3_ := Aside0.mk (blk_grown (g := gb238) (o := .cells #[.int .i64 a1_0, .int .i64 a1_1, .slice A1_2 l1_2.length c1_2, .slice A1_3 l1_3.length c1_3] 54 (0, 0)) (kQ BK238.out) hg (Kd.R_ne HO324.out BK238.out (by decide)))
            have n4_ := Aside0.mk (Kd.R_after (ok := (fun k_ => some k_ ≠ (.slice Ao18 t239.length co18 : Value).ownBlock)) (rQ HO318.out) hg hat)
            have n5_ := Aside0.mk (hb)
            have n6_ := Aside0.mk (ho)
            clear HO_8
            clear HO_9
            clear HO_11
            clear BK238
            clear HO318
            clear HB
            clear HO324
            have HO_8 := n0_
            have HO_9 := n1_
            have HO_11 := n2_
            have BK238 := n3_
            have HO318 := n4_
            have HB := n5_
            have HO327 := n6_
            clear n0_ n1_ n2_ n3_ n4_ n5_ n6_
            clear ho hb hg hat
            obtain ⟨Ao115, co115, eo115⟩ := Kd.R_slice HO327.out
            (first | subst eo115 | (injection eo115 with f1_ f2_ f3_; have f4_ := f1_.symm; have f5_ := f3_.symm; clear f1_ f2_ f3_; subst f4_; subst f5_))
            refine hK.out _ _ ⟨(blk_cell BK238.out 0).trans rfl, (blk_cell BK238.out 1).trans rfl, (blk_cell BK238.out 2).trans rfl, (blk_cell BK238.out 3).trans rfl⟩ (fun hHeld => ?_)
            clear hK K
            refine norm_ (a' := ?_) ?_ ?_
            rotate_left
            ·show Act.put _ (some 110) _ = _
             simp only [Act.put, List.setIfInBounds_toArray, List.set_cons_zero, List.set_cons_succ, i64_w, i32_w]
             rfl
            refine pure_ (i := 9) (N := some 111) (v := ?_) (a' := ?_) #[true, true, true, true, true, true, true, true, true, true, false, false, false, false] rfl rfl (any_of HT_.out (by kernel_rfl)) (fun _ _ _ h => h) (Or.inl ⟨by rfl, ?_⟩) ?_ ?_
            rotate_left
            ·intro w'
             go_simp
             with_reducible rfl
            rotate_left
            ·simp only [Act.put, List.setIfInBounds_toArray, List.set_cons_zero, List.set_cons_succ, i64_w, i32_w]
             rfl
            refine one_ (i := 10) (N := some 112) #[true, true, true, true, true, true, true, true, true, true, true, false, false, false] rfl rfl (one_of HT_.out (by kernel_rfl)) (by decide) (fun K hK => ?_)
            refine value_ (w1 := ?_) (v := ?_) (by rfl) rfl ?_ ?_
            rotate_left 2
            ·go_simp
             constructor
             ·rfl
             ·rfl
            refine hK.out _ _ ⟨(blk_cell (blk_alloc BK238.out _) 0).trans rfl, (blk_cell (blk_alloc BK238.out _) 1).trans rfl, (blk_cell (blk_alloc BK238.out _) 2).trans rfl, (blk_cell (blk_alloc BK238.out _) 3).trans rfl⟩ (fun hHeld => ?_)
            clear hK K
            refine norm_ (a' := ?_) ?_ ?_
            rotate_left
            ·show Act.put _ (some 112) _ = _
             simp only [Act.put, List.setIfInBounds_toArray, List.set_cons_zero, List.set_cons_succ, i64_w, i32_w]
             rfl
            refine one_ (i := 11) (N := some 113) #[true, true, true, true, true, true, true, true, true, true, true, true, false, false] rfl rfl (one_of HT_.out (by kernel_rfl)) (by decide) (fun K hK => ?_)
            refine Kd.S_append_step k42 (w0 := w) w.heap.size (by rfl) (.tmp 102) (.tmp 112) 25 42 (.agg #[(.int .i64 0), (.slice none 0 0)]) 32 rfl Tryz.underlying25 info42 rfl (by decide) (by omega) u11 x11_2 (⟨wrap64 (1 - a1_0), y325⟩ : S42) [.int .i64 (wrap64 (1 - a1_0)), .slice Ao115 y325.length co115] (fun k_ => some k_ ≠ (.slice Ao18 t239.length co18 : Value).ownBlock ∧ some k_ ≠ (.slice Ao113 t316.length co113 : Value).ownBlock) (fun k_ => some k_ = (.slice Ao115 y325.length co115 : Value).ownBlock) rfl rfl ?aP (fun k_ hk_ => ((Kd.R_mono (ok' := fun k_ => ((fun k_ => some k_ ≠ (.slice Ao18 t239.length co18 : Value).ownBlock ∧ some k_ ≠ (.slice Ao113 t316.length co113 : Value).ownBlock)) k_ ∧ some k_ ≠ (u11 : Value).ownBlock) (Kd.R_apart' (HO327.out) (Kd.S_typed HO_11.out) (by decide)) (fun k_ hk => ⟨⟨hk.1.1, hk.1.2⟩, hk.2⟩))).1 k_ hk_.symm) ?aF ?aO ?aB ?aS ?aL ?_
            (case aP => exact k42_mkM _ _ _ (⟨wrap64 (1 - a1_0), y325⟩ : S42) (Kd.R_mono (Kd.R_tight rfl (Kd.R_mono (ok' := fun k_ => ((fun k_ => some k_ ≠ (.slice Ao18 t239.length co18 : Value).ownBlock ∧ some k_ ≠ (.slice Ao113 t316.length co113 : Value).ownBlock)) k_ ∧ some k_ ≠ (u11 : Value).ownBlock) (Kd.R_apart' (HO327.out) (Kd.S_typed HO_11.out) (by decide)) (fun k_ hk => ⟨⟨hk.1.1, hk.1.2⟩, hk.2⟩))) (fun _ h_ => h_)))
            (case aB => exact bQ)
            (case aF => exact (fun k_ hk => ⟨Kd.fresh' (Kd.R_lt (rQ HO_8.out)) k_ hk, Kd.fresh' (Kd.R_lt (rQ HO318.out)) k_ hk⟩))
            (case aO => exact (by (with_reducible repeat (first | apply Kd.S_alloc | apply Kd.S_drewN | apply Kd.S_drew)); exact Kd.S_mono HO_11.out (fun k_ hk => ⟨⟨hk.1.1, hk.1.2⟩, fun e_ => hk.2 e_⟩)))
            (case aS => exact (below_size bQ))
            (case aL => have := LMc99.out; omega)
            intro v329 w116 ho hb hg hat
            rw [← Ny328.out] at ho
            have n0_ := Aside0.mk (Kd.R_over' (rQ HO_8.out) (Kd.S_typed (rQ HO_11.out)) (by decide) hg)
            have n1_ := Aside0.mk (Kd.R_over' (rQ HO_9.out) (Kd.S_typed (rQ HO_11.out)) (by decide) hg)
            have n2_ := Aside0.mk (blk_grown (g := gb238) (o := .cells #[.int .i64 a1_0, .int .i64 a1_1, .slice A1_2 l1_2.length c1_2, .slice A1_3 l1_3.length c1_3] 54 (0, 0)) (kQ BK238.out) hg (Kd.S_ne HO_11.out BK238.out (by decide)))
            have n3_ := Aside0.mk (Kd.R_over' (rQ HO318.out) (Kd.S_typed (rQ HO_11.out)) (by decide) hg)
            have n4_ := Aside0.mk (hb)
            have n5_ := Aside0.mk (ho)
            clear HO_8
            clear HO_9
            clear BK238
            clear HO318
            clear HB
            clear HO_11
            clear HO327
            have HO_8 := n0_
            have HO_9 := n1_
            have BK238 := n2_
            have HO318 := n3_
            have HB := n4_
            have HO330 := n5_
            clear n0_ n1_ n2_ n3_ n4_ n5_
            clear ho hb hg hat
            refine hK.out _ _ ⟨(blk_cell BK238.out 0).trans rfl, (blk_cell BK238.out 1).trans rfl, (blk_cell BK238.out 2).trans rfl, (blk_cell BK238.out 3).trans rfl⟩ (fun hHeld => ?_)
            clear hK K
            refine norm_ (a' := ?_) ?_ ?_
            rotate_left
            ·show Act.put _ (some 113) _ = _
             simp only [Act.put, List.setIfInBounds_toArray, List.set_cons_zero, List.set_cons_succ, i64_w, i32_w]
             rfl
            refine pure_ (i := 12) (N := some 6) (v := ?_) (a' := ?_) #[true, true, true, true, true, true, true, true, true, true, true, true, true, false] rfl rfl (any_of HT_.out (by kernel_rfl)) (fun _ _ _ h => h) (Or.inl ⟨by rfl, ?_⟩) ?_ ?_
            rotate_left
            ·intro w'
             go_simp
             with_reducible rfl
            rotate_left
            ·simp only [Act.put, List.setIfInBounds_toArray, List.set_cons_zero, List.set_cons_succ, i64_w, i32_w]
             rfl
            refine pure_ (i := 13) (N := some 7) (v := ?_) (a' := ?_) #[true, true, true, true, true, true, true, true, true, true, true, true, true, true] rfl rfl (any_of HT_.out (by kernel_rfl)) (fun _ _ _ h => h) (Or.inl ⟨by rfl, ?_⟩) ?_ ?_
            rotate_left
            ·intro w'
             go_simp
             with_reducible rfl
            rotate_left
            ·simp only [Act.put, List.setIfInBounds_toArray, List.set_cons_zero, List.set_cons_succ, i64_w, i32_w]
             rfl
            refine done_ (done_of HT_.out (by kernel_rfl)) ?_
            try go_wp2
            go_ret2
            exact ⟨_, eQ, by (with_reducible repeat (first | apply Kd.S_alloc | apply Kd.S_drewN | apply Kd.S_drew)); exact Kd.S_mono HO330.out (fun _ hk => trivial), bQ⟩
           ·rw [if_neg c99] at H
            exact absurd H (by simp)
          ·rw [if_neg c98] at H
           exact absurd H (by simp)
         ·rw [if_neg c97] at H
          exact absurd H (by simp)
        ·rw [if_neg c95] at H
         exact absurd H (by simp)
end Go.Proofs.YtcdpkdehogcjnaaGreat.Print
