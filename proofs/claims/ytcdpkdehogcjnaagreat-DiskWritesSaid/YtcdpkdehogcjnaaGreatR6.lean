import Derived.Test.YtcdpkdehogcjnaaGreatR0
set_option linter.unusedVariables false
set_option linter.unusedSimpArgs false
namespace Go.Proofs.YtcdpkdehogcjnaaGreat.Print
open Go.RowKit Go.Proofs.YtcdpkdehogcjnaaGreatW.PrintWords Go.Proofs.YtcdpkdehogcjnaaGreatW.PrintLast Go.Proofs.YtcdpkdehogcjnaaGreatW.PrintMore
attribute [local go_sem] max2_int min2_int max_two min_two max_three min_three max_four min_four
def berylref20_blocks.f (l0 : List Int) : Option (Int) := if ((l0.length : Int) % 64) = 0 then (if (wrap64 ((l0.length : Int) / 64)) < 8 then (some 0) else (if (wrap64 ((l0.length : Int) / 64)) > 256 then (some 0) else (some (wrap64 ((l0.length : Int) / 64))))) else (some 0)
set_option maxHeartbeats 8000000 in
set_option maxRecDepth 100000 in
theorem berylref20_blocks.calls (A0 : Option Addr) (c0 : Nat) (l0 : List Int) (r : Int) (w : World) (hr0 : Kd.C (Kd.int .u8) w A0 l0.length l0) (hc0 : l0.length ≤ c0) (h : berylref20_blocks.f l0 = some r) :
  Calls Tryz.prog 40 #[.slice A0 l0.length c0] w fun e w' => e = .returned (.int .i64 r) ∧ Drawn0 w w' := by
 have HR0 := Aside0.mk hr0
 have HC0 := Aside0.mk hc0
 clear hr0 hc0
 have H : (if ((l0.length : Int) % 64) = 0 then (if (wrap64 ((l0.length : Int) / 64)) < 8 then (some 0) else (if (wrap64 ((l0.length : Int) / 64)) > 256 then (some 0) else (some (wrap64 ((l0.length : Int) / 64))))) else (some 0)) = some r := h
 clear h
 by_cases c2 : ((l0.length : Int) % 64) = 0
 ·rw [if_pos c2] at H
  have c2b0 : (((l0.length : Int) % 64) == 0) = true := beq_iff_eq.mpr c2
  have c2b1 : (((l0.length : Int) % 64) != 0) = false := bne_eq_false_iff_eq.mpr c2
  clear c2
  by_cases c3 : (wrap64 ((l0.length : Int) / 64)) < 8
  ·rw [if_pos c3] at H
   have c3b0 : decide ((wrap64 ((l0.length : Int) / 64)) < 8) = true := decide_eq_true c3
   clear c3
   obtain rfl := Option.some.inj H
   go_enter Tryz.func40, Tryz.ntmps40
   go_wp2
   go_ret
   exact ⟨sQ, dQ⟩
  ·rw [if_neg c3] at H
   have c3b0 : decide ((wrap64 ((l0.length : Int) / 64)) < 8) = false := decide_eq_false c3
   clear c3
   by_cases c4 : (wrap64 ((l0.length : Int) / 64)) > 256
   ·rw [if_pos c4] at H
    have c4b0 : decide (256 < (wrap64 ((l0.length : Int) / 64))) = true := decide_eq_true c4
    clear c4
    obtain rfl := Option.some.inj H
    go_enter Tryz.func40, Tryz.ntmps40
    go_wp2
    go_ret
    exact ⟨sQ, dQ⟩
   ·rw [if_neg c4] at H
    have c4b0 : decide (256 < (wrap64 ((l0.length : Int) / 64))) = false := decide_eq_false c4
    clear c4
    obtain rfl := Option.some.inj H
    go_enter Tryz.func40, Tryz.ntmps40
    go_wp2
    go_ret
    exact ⟨sQ, dQ⟩
 ·rw [if_neg c2] at H
  have c2b0 : (((l0.length : Int) % 64) == 0) = false := beq_eq_false_iff_ne.mpr c2
  have c2b1 : (((l0.length : Int) % 64) != 0) = true := bne_iff_ne.mpr c2
  obtain rfl := Option.some.inj H
  go_enter Tryz.func40, Tryz.ntmps40
  go_wp2
  go_ret
  exact ⟨sQ, dQ⟩
def berylref20_room.f (a0 : Int) : Option (Int) := some (wrap64 (Int.tdiv (wrap64 (a0 - 2)) 2))
set_option maxHeartbeats 8000000 in
set_option maxRecDepth 100000 in
theorem berylref20_room.calls (a0 : Int) (r : Int) (w : World) (h : berylref20_room.f a0 = some r) :
  Calls Tryz.prog 51 #[.int .i64 a0] w fun e w' => e = .returned (.int .i64 r) ∧ Drawn0 w w' := by
 have H : (some (wrap64 (Int.tdiv (wrap64 (a0 - 2)) 2))) = some r := h
 clear h
 obtain rfl := Option.some.inj H
 go_enter Tryz.func51, Tryz.ntmps51
 go_wp2
 go_ret
 exact ⟨sQ, dQ⟩
def berylref20_zeros.l0 : Nat → List Int → Int → Option (Bool)
 | 0, _, _ => none
 | k + 1, x0, x3 => if x3 < (x0.length : Int) then (if 0 ≤ x3 then (if (rd x0 x3) = 0 then (berylref20_zeros.l0 k x0 (wrap64 (x3 + 1))) else (some false)) else (none)) else (some true)
def berylref20_zeros.f (k : Nat) (l0 : List Int) : Option (Bool) := berylref20_zeros.l0 k l0 0
theorem berylref20_zeros.mono_l : ∀ k, (∀ y0 y1, LeO (berylref20_zeros.l0 k y0 y1) (berylref20_zeros.l0 (k + 1) y0 y1))
 | 0 => fun _ _ r h => by simp [berylref20_zeros.l0] at h
 | k + 1 => by
  have ih0 := berylref20_zeros.mono_l k
  ·intro y0 y1
   unfold berylref20_zeros.l0
   repeat' first
   | (with_reducible exact ih0 _ _)
   | (with_reducible exact LeO.refl _)
   | (with_reducible exact LeO.none _)
   | (with_reducible refine LeO.ite ?_ ?_)
   | (with_reducible refine LeO.bind ?_ (fun _ => ?_))
   | exact ih0 _ _
   | exact LeO.none _
   | refine LeO.ite ?_ ?_
   | refine LeO.bind ?_ (fun _ => ?_)
theorem berylref20_zeros.mono : ∀ a0 k, LeO (berylref20_zeros.f k a0) (berylref20_zeros.f (k + 1) a0) := by
 intro a0 k
 have ih0 := berylref20_zeros.mono_l k
 unfold berylref20_zeros.f
 repeat' first
   | (with_reducible exact ih0 _ _)
   | (with_reducible exact LeO.refl _)
   | (with_reducible exact LeO.none _)
   | (with_reducible refine LeO.ite ?_ ?_)
   | (with_reducible refine LeO.bind ?_ (fun _ => ?_))
   | exact ih0 _ _
   | exact LeO.none _
   | refine LeO.ite ?_ ?_
   | refine LeO.bind ?_ (fun _ => ?_)
set_option maxHeartbeats 8000000 in
set_option maxRecDepth 100000 in
theorem berylref20_zeros.calls (k : Nat) (A0 : Option Addr) (c0 : Nat) (l0 : List Int) (r : Bool) (w : World) (hr0 : Kd.C (Kd.int .u8) w A0 l0.length l0) (hc0 : l0.length ≤ c0) (h : berylref20_zeros.f k l0 = some r) :
  Calls Tryz.prog 70 #[.slice A0 l0.length c0] w fun e w' => e = .returned (.bool r) ∧ Drawn0 w w' := by
 have HR0 := Aside0.mk hr0
 have HC0 := Aside0.mk hc0
 clear hr0 hc0
 have H : (berylref20_zeros.l0 k l0 0) = some r := h
 clear h
 have H' := Aside0.mk H
 clear H
 go_enter Tryz.func70, Tryz.ntmps70
 go_wp2
 go_loopg [3] k (fun kq v3 w' => ∃ (x3_1 : Int), v3 = .int .i64 x3_1 ∧ Aside0 (berylref20_zeros.l0 kq l0 x3_1 = some r) ∧ Aside0 (kq ≤ k) ∧ Drawn0 w w')
 case atStart => exact ⟨(0), sQ, H', ⟨Nat.le_refl _⟩, dQ⟩
 case round =>
  clear H'
  obtain ⟨x3_1, rfl, HA, HK1, ⟨m1, rfl⟩⟩ := hrel
  cases gk with
  | zero => exact absurd HA.out (by simp [berylref20_zeros.l0])
  | succ k1 =>
   have H := HA.out
   clear HA
   simp only [berylref20_zeros.l0] at H
   by_cases c2 : x3_1 < (l0.length : Int)
   ·rw [if_pos c2] at H
    have c2b0 : decide (x3_1 < (l0.length : Int)) = true := decide_eq_true c2
    clear c2
    by_cases c3 : 0 ≤ x3_1
    ·rw [if_pos c3] at H
     have c3b0 : decide (0 ≤ x3_1) = true := decide_eq_true c3
     clear c3
     by_cases c4 : (rd l0 x3_1) = 0
     ·rw [if_pos c4] at H
      have c4b0 : ((rd l0 x3_1) == 0) = true := beq_iff_eq.mpr c4
      have c4b1 : ((rd l0 x3_1) != 0) = false := bne_eq_false_iff_eq.mpr c4
      clear c4
      have H' := Aside0.mk H
      clear H
      have p169 : 0 ≤ (x3_1 : Int) := of_decide_eq_true hQ
      have q169 : x3_1 < (l0.length : Int) := of_decide_eq_true hQ
      obtain ⟨ad169, e169, hx169_0⟩ := Kd.at_int HR0.out x3_1 p169 q169
      cases e169
      replace p169 := eq_true p169
      replace q169 := eq_true q169
      go_wp2
      go_roundg k1
      case measure => have := HK1.out; omega
      case rel => exact ⟨(wrap64 (x3_1 + 1)), sQ, H', ⟨by have := HK1.out; omega⟩, dQ⟩
     ·rw [if_neg c4] at H
      have c4b0 : ((rd l0 x3_1) == 0) = false := beq_eq_false_iff_ne.mpr c4
      have c4b1 : ((rd l0 x3_1) != 0) = true := bne_iff_ne.mpr c4
      obtain rfl := Option.some.inj H
      have p169 : 0 ≤ (x3_1 : Int) := of_decide_eq_true hQ
      have q169 : x3_1 < (l0.length : Int) := of_decide_eq_true hQ
      obtain ⟨ad169, e169, hx169_0⟩ := Kd.at_int HR0.out x3_1 p169 q169
      cases e169
      replace p169 := eq_true p169
      replace q169 := eq_true q169
      go_wp2
      go_ret
      exact ⟨sQ, dQ⟩
    ·rw [if_neg c3] at H
     exact absurd H (by simp)
   ·rw [if_neg c2] at H
    have c2b0 : decide (x3_1 < (l0.length : Int)) = false := decide_eq_false c2
    clear c2
    obtain rfl := Option.some.inj H
    go_wp2
    go_ret
    exact ⟨sQ, dQ⟩
def berylref20_long.l0 : Nat → List Int → Int → Int → Option (Int)
 | 0, _, _, _ => none
 | k + 1, x0, x3, x4 => if x4 < 8 then (if 0 ≤ x4 then (if x4 < (x0.length : Int) then (berylref20_long.l0 k x0 (wrap64 ((wrap64 (256 * x3)) + (wrap64 (rd x0 x4)))) (wrap64 (x4 + 1))) else (none)) else (none)) else (if x3 > 4611686018427387904 then (some (-1)) else (some x3))
def berylref20_long.f (k : Nat) (l0 : List Int) : Option (Int) := if 0 < (l0.length : Int) then (if (rd l0 0) > 64 then (some (-1)) else (berylref20_long.l0 k l0 0 0)) else (none)
theorem berylref20_long.mono_l : ∀ k, (∀ y0 y1 y2, LeO (berylref20_long.l0 k y0 y1 y2) (berylref20_long.l0 (k + 1) y0 y1 y2))
 | 0 => fun _ _ _ r h => by simp [berylref20_long.l0] at h
 | k + 1 => by
  have ih0 := berylref20_long.mono_l k
  ·intro y0 y1 y2
   unfold berylref20_long.l0
   repeat' first
   | (with_reducible exact ih0 _ _ _)
   | (with_reducible exact LeO.refl _)
   | (with_reducible exact LeO.none _)
   | (with_reducible refine LeO.ite ?_ ?_)
   | (with_reducible refine LeO.bind ?_ (fun _ => ?_))
   | exact ih0 _ _ _
   | exact LeO.none _
   | refine LeO.ite ?_ ?_
   | refine LeO.bind ?_ (fun _ => ?_)
theorem berylref20_long.mono : ∀ a0 k, LeO (berylref20_long.f k a0) (berylref20_long.f (k + 1) a0) := by
 intro a0 k
 have ih0 := berylref20_long.mono_l k
 unfold berylref20_long.f
 repeat' first
   | (with_reducible exact ih0 _ _ _)
   | (with_reducible exact LeO.refl _)
   | (with_reducible exact LeO.none _)
   | (with_reducible refine LeO.ite ?_ ?_)
   | (with_reducible refine LeO.bind ?_ (fun _ => ?_))
   | exact ih0 _ _ _
   | exact LeO.none _
   | refine LeO.ite ?_ ?_
   | refine LeO.bind ?_ (fun _ => ?_)
set_option maxHeartbeats 8000000 in
set_option maxRecDepth 100000 in
theorem berylref20_long.calls (k : Nat) (A0 : Option Addr) (c0 : Nat) (l0 : List Int) (r : Int) (w : World) (hr0 : Kd.C (Kd.int .u8) w A0 l0.length l0) (hc0 : l0.length ≤ c0) (h : berylref20_long.f k l0 = some r) :
  Calls Tryz.prog 71 #[.slice A0 l0.length c0] w fun e w' => e = .returned (.int .i64 r) ∧ Drawn0 w w' := by
 have HR0 := Aside0.mk hr0
 have HC0 := Aside0.mk hc0
 clear hr0 hc0
 have H : (if 0 < (l0.length : Int) then (if (rd l0 0) > 64 then (some (-1)) else (berylref20_long.l0 k l0 0 0)) else (none)) = some r := h
 clear h
 by_cases c2 : 0 < (l0.length : Int)
 ·rw [if_pos c2] at H
  have c2b0 : decide (0 < (l0.length : Int)) = true := decide_eq_true c2
  have c2b1 : decide (0 < l0.length) = true := decide_eq_true (by omega)
  clear c2
  by_cases c3 : (rd l0 0) > 64
  ·rw [if_pos c3] at H
   have c3b0 : decide (64 < (rd l0 0)) = true := decide_eq_true c3
   clear c3
   obtain rfl := Option.some.inj H
   have p170 : 0 ≤ (0 : Int) := (by omega)
   have q170 : 0 < (l0.length : Int) := of_decide_eq_true hQ
   obtain ⟨ad170, e170, hx170_0⟩ := Kd.at_int HR0.out 0 p170 q170
   cases e170
   have qi170 : (0 < l0.length) = True := eq_true (by omega)
   (try rw [show ((0 : Int)).toNat = 0 from rfl] at hx170_0)
   (try rw [Addr.add_zero'] at hx170_0)
   replace p170 := eq_true p170
   replace q170 := eq_true q170
   go_enter Tryz.func71, Tryz.ntmps71
   go_wp2
   go_ret
   exact ⟨sQ, dQ⟩
  ·rw [if_neg c3] at H
   have c3b0 : decide (64 < (rd l0 0)) = false := decide_eq_false c3
   clear c3
   have H' := Aside0.mk H
   clear H
   have p170 : 0 ≤ (0 : Int) := (by omega)
   have q170 : 0 < (l0.length : Int) := of_decide_eq_true hQ
   obtain ⟨ad170, e170, hx170_0⟩ := Kd.at_int HR0.out 0 p170 q170
   cases e170
   have qi170 : (0 < l0.length) = True := eq_true (by omega)
   (try rw [show ((0 : Int)).toNat = 0 from rfl] at hx170_0)
   (try rw [Addr.add_zero'] at hx170_0)
   replace p170 := eq_true p170
   replace q170 := eq_true q170
   go_enter Tryz.func71, Tryz.ntmps71
   go_wp2
   go_loopg [3, 4] k (fun kq v3 v4 w' => ∃ (x3_1 : Int) (x4_1 : Int), v3 = .int .i64 x3_1 ∧ v4 = .int .i64 x4_1 ∧ Aside0 (berylref20_long.l0 kq l0 x3_1 x4_1 = some r) ∧ Aside0 (kq ≤ k) ∧ Drawn0 w w')
   case atStart => exact ⟨(0), (0), sQ, sQ, H', ⟨Nat.le_refl _⟩, dQ⟩
   case round =>
    clear H'
    try clear p1
    try clear q1
    try clear hx1
    try clear qi1
    try clear c2
    try clear c2b0
    try clear c2b1
    try clear p2
    try clear c3
    try clear c3b0
    try clear hx170_0
    try clear p170
    try clear q170
    obtain ⟨x3_1, x4_1, rfl, rfl, HA, HK1, ⟨m1, rfl⟩⟩ := hrel
    cases gk with
    | zero => exact absurd HA.out (by simp [berylref20_long.l0])
    | succ k1 =>
     have H := HA.out
     clear HA
     simp only [berylref20_long.l0] at H
     by_cases c4 : x4_1 < 8
     ·rw [if_pos c4] at H
      have c4b0 : decide (x4_1 < 8) = true := decide_eq_true c4
      clear c4
      by_cases c5 : 0 ≤ x4_1
      ·rw [if_pos c5] at H
       have c5b0 : decide (0 ≤ x4_1) = true := decide_eq_true c5
       clear c5
       by_cases c6 : x4_1 < (l0.length : Int)
       ·rw [if_pos c6] at H
        have c6b0 : decide (x4_1 < (l0.length : Int)) = true := decide_eq_true c6
        clear c6
        have H' := Aside0.mk H
        clear H
        have p171 : 0 ≤ (x4_1 : Int) := of_decide_eq_true hQ
        have q171 : x4_1 < (l0.length : Int) := of_decide_eq_true hQ
        obtain ⟨ad171, e171, hx171_0⟩ := Kd.at_int HR0.out x4_1 p171 q171
        obtain rfl : ad170 = ad171 := (by injection e171)
        replace p171 := eq_true p171
        replace q171 := eq_true q171
        go_wp2
        go_roundg k1
        case measure => have := HK1.out; omega
        case rel => exact ⟨(wrap64 ((wrap64 (256 * x3_1)) + (wrap64 (rd l0 x4_1)))), (wrap64 (x4_1 + 1)), sQ, sQ, H', ⟨by have := HK1.out; omega⟩, dQ⟩
       ·rw [if_neg c6] at H
        exact absurd H (by simp)
      ·rw [if_neg c5] at H
       exact absurd H (by simp)
     ·rw [if_neg c4] at H
      have c4b0 : decide (x4_1 < 8) = false := decide_eq_false c4
      clear c4
      by_cases c7 : x3_1 > 4611686018427387904
      ·rw [if_pos c7] at H
       have c7b0 : decide (4611686018427387904 < x3_1) = true := decide_eq_true c7
       clear c7
       obtain rfl := Option.some.inj H
       go_wp2
       go_ret
       exact ⟨sQ, dQ⟩
      ·rw [if_neg c7] at H
       have c7b0 : decide (4611686018427387904 < x3_1) = false := decide_eq_false c7
       clear c7
       obtain rfl := Option.some.inj H
       go_wp2
       go_ret
       exact ⟨sQ, dQ⟩
 ·rw [if_neg c2] at H
  exact absurd H (by simp)
def berylref20_word.f (l0 : List Int) : Option (Int) := if 0 < (l0.length : Int) then (if 1 < (l0.length : Int) then (some (wrap64 ((wrap64 (256 * (wrap64 (rd l0 0)))) + (wrap64 (rd l0 1))))) else (none)) else (none)
set_option maxHeartbeats 8000000 in
set_option maxRecDepth 100000 in
theorem berylref20_word.calls (A0 : Option Addr) (c0 : Nat) (l0 : List Int) (r : Int) (w : World) (hr0 : Kd.C (Kd.int .u8) w A0 l0.length l0) (hc0 : l0.length ≤ c0) (h : berylref20_word.f l0 = some r) :
  Calls Tryz.prog 72 #[.slice A0 l0.length c0] w fun e w' => e = .returned (.int .i64 r) ∧ Drawn0 w w' := by
 have HR0 := Aside0.mk hr0
 have HC0 := Aside0.mk hc0
 clear hr0 hc0
 have H : (if 0 < (l0.length : Int) then (if 1 < (l0.length : Int) then (some (wrap64 ((wrap64 (256 * (wrap64 (rd l0 0)))) + (wrap64 (rd l0 1))))) else (none)) else (none)) = some r := h
 clear h
 by_cases c2 : 0 < (l0.length : Int)
 ·rw [if_pos c2] at H
  have c2b0 : decide (0 < (l0.length : Int)) = true := decide_eq_true c2
  have c2b1 : decide (0 < l0.length) = true := decide_eq_true (by omega)
  clear c2
  by_cases c3 : 1 < (l0.length : Int)
  ·rw [if_pos c3] at H
   have c3b0 : decide (1 < (l0.length : Int)) = true := decide_eq_true c3
   have c3b1 : decide (1 < l0.length) = true := decide_eq_true (by omega)
   clear c3
   obtain rfl := Option.some.inj H
   have p172 : 0 ≤ (0 : Int) := (by omega)
   have q172 : 0 < (l0.length : Int) := of_decide_eq_true hQ
   obtain ⟨ad172, e172, hx172_0⟩ := Kd.at_int HR0.out 0 p172 q172
   cases e172
   have qi172 : (0 < l0.length) = True := eq_true (by omega)
   (try rw [show ((0 : Int)).toNat = 0 from rfl] at hx172_0)
   (try rw [Addr.add_zero'] at hx172_0)
   replace p172 := eq_true p172
   replace q172 := eq_true q172
   have p173 : 0 ≤ (1 : Int) := (by omega)
   have q173 : 1 < (l0.length : Int) := of_decide_eq_true hQ
   obtain ⟨ad173, e173, hx173_0⟩ := Kd.at_int HR0.out 1 p173 q173
   obtain rfl : ad172 = ad173 := (by injection e173)
   (try simp only [show (1 : Int).toNat = 1 from rfl, Nat.reduceMul, Nat.reduceEqDiff, Go.Addr.add, ↓reduceIte] at hx173_0)
   have qi173 : (1 < l0.length) = True := eq_true (by omega)
   (try rw [show ((1 : Int)).toNat = 1 from rfl] at hx173_0)
   replace p173 := eq_true p173
   replace q173 := eq_true q173
   go_enter Tryz.func72, Tryz.ntmps72
   go_wp2
   repeat (go_quiet (fail); try go_wp2)
   go_ret
   exact ⟨sQ, dQ⟩
  ·rw [if_neg c3] at H
   exact absurd H (by simp)
 ·rw [if_neg c2] at H
  exact absurd H (by simp)
def berylref20_right.l0 : Nat → List (S40) → Int → Option (Bool)
 | 0, _, _ => none
 | k + 1, x0, x3 => if x3 < (x0.length : Int) then (if 0 ≤ x3 then (if ((rd_T40 x0 x3).f0) < 1 then (some false) else (if ((rd_T40 x0 x3).f0) > 4611686018427387904 then (some false) else (if (((rd_T40 x0 x3).f1).length : Int) > 4000 then (some false) else (if x3 > 0 then (if 0 ≤ (wrap64 (x3 - 1)) then (if (wrap64 (x3 - 1)) < (x0.length : Int) then (if ((rd_T40 x0 (wrap64 (x3 - 1))).f0) ≥ ((rd_T40 x0 x3).f0) then (some false) else (berylref20_right.l0 k x0 (wrap64 (x3 + 1)))) else (none)) else (none)) else (berylref20_right.l0 k x0 (wrap64 (x3 + 1))))))) else (none)) else (some true)
def berylref20_right.f (k : Nat) (l0 : List (S40)) : Option (Bool) := berylref20_right.l0 k l0 0
theorem berylref20_right.mono_l : ∀ k, (∀ y0 y1, LeO (berylref20_right.l0 k y0 y1) (berylref20_right.l0 (k + 1) y0 y1))
 | 0 => fun _ _ r h => by simp [berylref20_right.l0] at h
 | k + 1 => by
  have ih0 := berylref20_right.mono_l k
  ·intro y0 y1
   unfold berylref20_right.l0
   repeat' first
   | (with_reducible exact ih0 _ _)
   | (with_reducible exact LeO.refl _)
   | (with_reducible exact LeO.none _)
   | (with_reducible refine LeO.ite ?_ ?_)
   | (with_reducible refine LeO.bind ?_ (fun _ => ?_))
   | exact ih0 _ _
   | exact LeO.none _
   | refine LeO.ite ?_ ?_
   | refine LeO.bind ?_ (fun _ => ?_)
theorem berylref20_right.mono : ∀ a0 k, LeO (berylref20_right.f k a0) (berylref20_right.f (k + 1) a0) := by
 intro a0 k
 have ih0 := berylref20_right.mono_l k
 unfold berylref20_right.f
 repeat' first
   | (with_reducible exact ih0 _ _)
   | (with_reducible exact LeO.refl _)
   | (with_reducible exact LeO.none _)
   | (with_reducible refine LeO.ite ?_ ?_)
   | (with_reducible refine LeO.bind ?_ (fun _ => ?_))
   | exact ih0 _ _
   | exact LeO.none _
   | refine LeO.ite ?_ ?_
   | refine LeO.bind ?_ (fun _ => ?_)
set_option maxHeartbeats 8000000 in
set_option maxRecDepth 100000 in
theorem berylref20_right.calls (k : Nat) (A0 : Option Addr) (c0 : Nat) (l0 : List (S40)) (r : Bool) (w : World) (hr0 : Kd.C k40 w A0 l0.length l0) (hc0 : l0.length ≤ c0) (h : berylref20_right.f k l0 = some r) :
  Calls Tryz.prog 27 #[.slice A0 l0.length c0] w fun e w' => e = .returned (.bool r) ∧ Drawn0 w w' := by
 have HR0 := Aside0.mk hr0
 have HC0 := Aside0.mk hc0
 clear hr0 hc0
 have H : (berylref20_right.l0 k l0 0) = some r := h
 clear h
 have H' := Aside0.mk H
 clear H
 go_enter Tryz.func27, Tryz.ntmps27
 go_wp2
 repeat (go_quiet (fail); try go_wp2)
 go_loopg [3] k (fun kq v3 w' => ∃ (x3_1 : Int), v3 = .int .i64 x3_1 ∧ Aside0 (berylref20_right.l0 kq l0 x3_1 = some r) ∧ Aside0 (kq ≤ k) ∧ Drawn0 w w')
 case atStart => exact ⟨(0), sQ, H', ⟨Nat.le_refl _⟩, dQ⟩
 case round =>
  clear H'
  obtain ⟨x3_1, rfl, HA, HK1, ⟨m1, rfl⟩⟩ := hrel
  cases gk with
  | zero => exact absurd HA.out (by simp [berylref20_right.l0])
  | succ k1 =>
   have H := HA.out
   clear HA
   simp only [berylref20_right.l0] at H
   by_cases c2 : x3_1 < (l0.length : Int)
   ·rw [if_pos c2] at H
    have c2b0 : decide (x3_1 < (l0.length : Int)) = true := decide_eq_true c2
    clear c2
    by_cases c3 : 0 ≤ x3_1
    ·rw [if_pos c3] at H
     have c3b0 : decide (0 ≤ x3_1) = true := decide_eq_true c3
     clear c3
     by_cases c4 : ((rd_T40 l0 x3_1).f0) < 1
     ·rw [if_pos c4] at H
      have c4b0 : decide (((rd_T40 l0 x3_1).f0) < 1) = true := decide_eq_true c4
      clear c4
      obtain rfl := Option.some.inj H
      have p174 : 0 ≤ (x3_1 : Int) := of_decide_eq_true hQ
      have q174 : x3_1 < (l0.length : Int) := of_decide_eq_true hQ
      obtain ⟨ad174, A174_1, c174_1, e174, hx174_0, hx174_1, hl174_1, hi174_1⟩ := at_T40 HR0.out x3_1 p174 q174
      cases e174
      have HR174_1 := Aside0.mk hi174_1
      have HC174_1 := Aside0.mk hl174_1
      clear hi174_1 hl174_1
      replace p174 := eq_true p174
      replace q174 := eq_true q174
      go_wp2
      repeat (go_quiet (fail); try go_wp2)
      go_ret
      exact ⟨sQ, dQ⟩
     ·rw [if_neg c4] at H
      have c4b0 : decide (((rd_T40 l0 x3_1).f0) < 1) = false := decide_eq_false c4
      clear c4
      by_cases c5 : ((rd_T40 l0 x3_1).f0) > 4611686018427387904
      ·rw [if_pos c5] at H
       have c5b0 : decide (4611686018427387904 < ((rd_T40 l0 x3_1).f0)) = true := decide_eq_true c5
       clear c5
       obtain rfl := Option.some.inj H
       have p174 : 0 ≤ (x3_1 : Int) := of_decide_eq_true hQ
       have q174 : x3_1 < (l0.length : Int) := of_decide_eq_true hQ
       obtain ⟨ad174, A174_1, c174_1, e174, hx174_0, hx174_1, hl174_1, hi174_1⟩ := at_T40 HR0.out x3_1 p174 q174
       cases e174
       have HR174_1 := Aside0.mk hi174_1
       have HC174_1 := Aside0.mk hl174_1
       clear hi174_1 hl174_1
       replace p174 := eq_true p174
       replace q174 := eq_true q174
       have p175 : 0 ≤ (x3_1 : Int) := of_decide_eq_true hQ
       have q175 : x3_1 < (l0.length : Int) := of_decide_eq_true hQ
       obtain ⟨ad175, A175_1, c175_1, e175, hx175_0, hx175_1, hl175_1, hi175_1⟩ := at_T40 HR0.out x3_1 p175 q175
       obtain rfl : ad174 = ad175 := (by injection e175)
       have HR175_1 := Aside0.mk hi175_1
       have HC175_1 := Aside0.mk hl175_1
       clear hi175_1 hl175_1
       replace p175 := eq_true p175
       replace q175 := eq_true q175
       have ea_ := Option.some.inj (hx174_1.symm.trans hx175_1)
       injection ea_ with ea_ en_ ec_
       subst ea_
       subst ec_
       clear en_
       go_wp2
       repeat (go_quiet (fail); try go_wp2)
       go_ret
       exact ⟨sQ, dQ⟩
      ·rw [if_neg c5] at H
       have c5b0 : decide (4611686018427387904 < ((rd_T40 l0 x3_1).f0)) = false := decide_eq_false c5
       clear c5
       by_cases c6 : (((rd_T40 l0 x3_1).f1).length : Int) > 4000
       ·rw [if_pos c6] at H
        have c6b0 : decide (4000 < (((rd_T40 l0 x3_1).f1).length : Int)) = true := decide_eq_true c6
        have c6b1 : decide (4000 < ((rd_T40 l0 x3_1).f1).length) = true := decide_eq_true (by omega)
        clear c6
        obtain rfl := Option.some.inj H
        have p174 : 0 ≤ (x3_1 : Int) := of_decide_eq_true hQ
        have q174 : x3_1 < (l0.length : Int) := of_decide_eq_true hQ
        obtain ⟨ad174, A174_1, c174_1, e174, hx174_0, hx174_1, hl174_1, hi174_1⟩ := at_T40 HR0.out x3_1 p174 q174
        cases e174
        have HR174_1 := Aside0.mk hi174_1
        have HC174_1 := Aside0.mk hl174_1
        clear hi174_1 hl174_1
        replace p174 := eq_true p174
        replace q174 := eq_true q174
        have p175 : 0 ≤ (x3_1 : Int) := of_decide_eq_true hQ
        have q175 : x3_1 < (l0.length : Int) := of_decide_eq_true hQ
        obtain ⟨ad175, A175_1, c175_1, e175, hx175_0, hx175_1, hl175_1, hi175_1⟩ := at_T40 HR0.out x3_1 p175 q175
        obtain rfl : ad174 = ad175 := (by injection e175)
        have HR175_1 := Aside0.mk hi175_1
        have HC175_1 := Aside0.mk hl175_1
        clear hi175_1 hl175_1
        replace p175 := eq_true p175
        replace q175 := eq_true q175
        have ea_ := Option.some.inj (hx174_1.symm.trans hx175_1)
        injection ea_ with ea_ en_ ec_
        subst ea_
        subst ec_
        clear en_
        have p176 : 0 ≤ (x3_1 : Int) := of_decide_eq_true hQ
        have q176 : x3_1 < (l0.length : Int) := of_decide_eq_true hQ
        obtain ⟨ad176, A176_1, c176_1, e176, hx176_0, hx176_1, hl176_1, hi176_1⟩ := at_T40 HR0.out x3_1 p176 q176
        obtain rfl : ad174 = ad176 := (by injection e176)
        have HR176_1 := Aside0.mk hi176_1
        have HC176_1 := Aside0.mk hl176_1
        clear hi176_1 hl176_1
        replace p176 := eq_true p176
        replace q176 := eq_true q176
        have ea_ := Option.some.inj (hx174_1.symm.trans hx176_1)
        injection ea_ with ea_ en_ ec_
        subst ea_
        subst ec_
        clear en_
        go_wp2
        repeat (go_quiet (fail); try go_wp2)
        go_ret
        exact ⟨sQ, dQ⟩
       ·rw [if_neg c6] at H
        have c6b0 : decide (4000 < (((rd_T40 l0 x3_1).f1).length : Int)) = false := decide_eq_false c6
        have c6b1 : decide (4000 < ((rd_T40 l0 x3_1).f1).length) = false := decide_eq_false (by omega)
        clear c6
        by_cases c7 : x3_1 > 0
        ·rw [if_pos c7] at H
         have c7b0 : decide (0 < x3_1) = true := decide_eq_true c7
         clear c7
         obtain ⟨ji8, hji8⟩ : ∃ j_ : Int, (wrap64 (x3_1 - 1)) = j_ := ⟨_, rfl⟩
         replace H : (if 0 ≤ (ji8) then (if (ji8) < (l0.length : Int) then (if ((rd_T40 l0 (ji8)).f0) ≥ ((rd_T40 l0 x3_1).f0) then (some false) else (berylref20_right.l0 k1 l0 (wrap64 (x3_1 + 1)))) else (none)) else (none)) = some r := by first | (rw [hji8] at H; exact H) | (simp only [hji8] at H ⊢; exact H)
         have hji8w : (IntKind.i64.wrap (x3_1 - 1)) = ji8 := (i64_w _).trans hji8
         by_cases c9 : 0 ≤ (ji8)
         ·rw [if_pos c9] at H
          have c9b0 : decide (0 ≤ (ji8)) = true := decide_eq_true c9
          clear c9
          by_cases c10 : (ji8) < (l0.length : Int)
          ·rw [if_pos c10] at H
           have c10b0 : decide ((ji8) < (l0.length : Int)) = true := decide_eq_true c10
           clear c10
           by_cases c11 : ((rd_T40 l0 (ji8)).f0) ≥ ((rd_T40 l0 x3_1).f0)
           ·rw [if_pos c11] at H
            have c11b0 : decide (((rd_T40 l0 x3_1).f0) ≤ ((rd_T40 l0 (ji8)).f0)) = true := decide_eq_true c11
            clear c11
            obtain rfl := Option.some.inj H
            have p174 : 0 ≤ (x3_1 : Int) := of_decide_eq_true hQ
            have q174 : x3_1 < (l0.length : Int) := of_decide_eq_true hQ
            obtain ⟨ad174, A174_1, c174_1, e174, hx174_0, hx174_1, hl174_1, hi174_1⟩ := at_T40 HR0.out x3_1 p174 q174
            cases e174
            have HR174_1 := Aside0.mk hi174_1
            have HC174_1 := Aside0.mk hl174_1
            clear hi174_1 hl174_1
            replace p174 := eq_true p174
            replace q174 := eq_true q174
            have p175 : 0 ≤ (x3_1 : Int) := of_decide_eq_true hQ
            have q175 : x3_1 < (l0.length : Int) := of_decide_eq_true hQ
            obtain ⟨ad175, A175_1, c175_1, e175, hx175_0, hx175_1, hl175_1, hi175_1⟩ := at_T40 HR0.out x3_1 p175 q175
            obtain rfl : ad174 = ad175 := (by injection e175)
            have HR175_1 := Aside0.mk hi175_1
            have HC175_1 := Aside0.mk hl175_1
            clear hi175_1 hl175_1
            replace p175 := eq_true p175
            replace q175 := eq_true q175
            have ea_ := Option.some.inj (hx174_1.symm.trans hx175_1)
            injection ea_ with ea_ en_ ec_
            subst ea_
            subst ec_
            clear en_
            have p176 : 0 ≤ (x3_1 : Int) := of_decide_eq_true hQ
            have q176 : x3_1 < (l0.length : Int) := of_decide_eq_true hQ
            obtain ⟨ad176, A176_1, c176_1, e176, hx176_0, hx176_1, hl176_1, hi176_1⟩ := at_T40 HR0.out x3_1 p176 q176
            obtain rfl : ad174 = ad176 := (by injection e176)
            have HR176_1 := Aside0.mk hi176_1
            have HC176_1 := Aside0.mk hl176_1
            clear hi176_1 hl176_1
            replace p176 := eq_true p176
            replace q176 := eq_true q176
            have ea_ := Option.some.inj (hx174_1.symm.trans hx176_1)
            injection ea_ with ea_ en_ ec_
            subst ea_
            subst ec_
            clear en_
            have p177 : 0 ≤ ((ji8) : Int) := of_decide_eq_true hQ
            have q177 : (ji8) < (l0.length : Int) := of_decide_eq_true hQ
            obtain ⟨ad177, A177_1, c177_1, e177, hx177_0, hx177_1, hl177_1, hi177_1⟩ := at_T40 HR0.out (ji8) p177 q177
            obtain rfl : ad174 = ad177 := (by injection e177)
            have HR177_1 := Aside0.mk hi177_1
            have HC177_1 := Aside0.mk hl177_1
            clear hi177_1 hl177_1
            replace p177 := eq_true p177
            replace q177 := eq_true q177
            have p178 : 0 ≤ (x3_1 : Int) := of_decide_eq_true hQ
            have q178 : x3_1 < (l0.length : Int) := of_decide_eq_true hQ
            obtain ⟨ad178, A178_1, c178_1, e178, hx178_0, hx178_1, hl178_1, hi178_1⟩ := at_T40 HR0.out x3_1 p178 q178
            obtain rfl : ad174 = ad178 := (by injection e178)
            have HR178_1 := Aside0.mk hi178_1
            have HC178_1 := Aside0.mk hl178_1
            clear hi178_1 hl178_1
            replace p178 := eq_true p178
            replace q178 := eq_true q178
            have ea_ := Option.some.inj (hx174_1.symm.trans hx178_1)
            injection ea_ with ea_ en_ ec_
            subst ea_
            subst ec_
            clear en_
            go_wp2
            repeat (go_quiet (fail); try go_wp2)
            go_ret
            exact ⟨by first | rfl | (simp; done) | (simp only [← hji8] <;> (first | rfl | simp)) | (simp [*]; done), dQ⟩
           ·rw [if_neg c11] at H
            have c11b0 : decide (((rd_T40 l0 x3_1).f0) ≤ ((rd_T40 l0 (ji8)).f0)) = false := decide_eq_false c11
            clear c11
            have H' := Aside0.mk H
            clear H
            have p174 : 0 ≤ (x3_1 : Int) := of_decide_eq_true hQ
            have q174 : x3_1 < (l0.length : Int) := of_decide_eq_true hQ
            obtain ⟨ad174, A174_1, c174_1, e174, hx174_0, hx174_1, hl174_1, hi174_1⟩ := at_T40 HR0.out x3_1 p174 q174
            cases e174
            have HR174_1 := Aside0.mk hi174_1
            have HC174_1 := Aside0.mk hl174_1
            clear hi174_1 hl174_1
            replace p174 := eq_true p174
            replace q174 := eq_true q174
            have p175 : 0 ≤ (x3_1 : Int) := of_decide_eq_true hQ
            have q175 : x3_1 < (l0.length : Int) := of_decide_eq_true hQ
            obtain ⟨ad175, A175_1, c175_1, e175, hx175_0, hx175_1, hl175_1, hi175_1⟩ := at_T40 HR0.out x3_1 p175 q175
            obtain rfl : ad174 = ad175 := (by injection e175)
            have HR175_1 := Aside0.mk hi175_1
            have HC175_1 := Aside0.mk hl175_1
            clear hi175_1 hl175_1
            replace p175 := eq_true p175
            replace q175 := eq_true q175
            have ea_ := Option.some.inj (hx174_1.symm.trans hx175_1)
            injection ea_ with ea_ en_ ec_
            subst ea_
            subst ec_
            clear en_
            have p176 : 0 ≤ (x3_1 : Int) := of_decide_eq_true hQ
            have q176 : x3_1 < (l0.length : Int) := of_decide_eq_true hQ
            obtain ⟨ad176, A176_1, c176_1, e176, hx176_0, hx176_1, hl176_1, hi176_1⟩ := at_T40 HR0.out x3_1 p176 q176
            obtain rfl : ad174 = ad176 := (by injection e176)
            have HR176_1 := Aside0.mk hi176_1
            have HC176_1 := Aside0.mk hl176_1
            clear hi176_1 hl176_1
            replace p176 := eq_true p176
            replace q176 := eq_true q176
            have ea_ := Option.some.inj (hx174_1.symm.trans hx176_1)
            injection ea_ with ea_ en_ ec_
            subst ea_
            subst ec_
            clear en_
            have p177 : 0 ≤ ((ji8) : Int) := of_decide_eq_true hQ
            have q177 : (ji8) < (l0.length : Int) := of_decide_eq_true hQ
            obtain ⟨ad177, A177_1, c177_1, e177, hx177_0, hx177_1, hl177_1, hi177_1⟩ := at_T40 HR0.out (ji8) p177 q177
            obtain rfl : ad174 = ad177 := (by injection e177)
            have HR177_1 := Aside0.mk hi177_1
            have HC177_1 := Aside0.mk hl177_1
            clear hi177_1 hl177_1
            replace p177 := eq_true p177
            replace q177 := eq_true q177
            have p178 : 0 ≤ (x3_1 : Int) := of_decide_eq_true hQ
            have q178 : x3_1 < (l0.length : Int) := of_decide_eq_true hQ
            obtain ⟨ad178, A178_1, c178_1, e178, hx178_0, hx178_1, hl178_1, hi178_1⟩ := at_T40 HR0.out x3_1 p178 q178
            obtain rfl : ad174 = ad178 := (by injection e178)
            have HR178_1 := Aside0.mk hi178_1
            have HC178_1 := Aside0.mk hl178_1
            clear hi178_1 hl178_1
            replace p178 := eq_true p178
            replace q178 := eq_true q178
            have ea_ := Option.some.inj (hx174_1.symm.trans hx178_1)
            injection ea_ with ea_ en_ ec_
            subst ea_
            subst ec_
            clear en_
            go_wp2
            repeat (go_quiet (fail); try go_wp2)
            go_roundg k1
            case measure => have := HK1.out; omega
            case rel => exact ⟨(wrap64 (x3_1 + 1)), sQ, H', ⟨by have := HK1.out; omega⟩, dQ⟩
          ·rw [if_neg c10] at H
           exact absurd H (by simp)
         ·rw [if_neg c9] at H
          exact absurd H (by simp)
        ·rw [if_neg c7] at H
         have c7b0 : decide (0 < x3_1) = false := decide_eq_false c7
         clear c7
         have H' := Aside0.mk H
         clear H
         have p174 : 0 ≤ (x3_1 : Int) := of_decide_eq_true hQ
         have q174 : x3_1 < (l0.length : Int) := of_decide_eq_true hQ
         obtain ⟨ad174, A174_1, c174_1, e174, hx174_0, hx174_1, hl174_1, hi174_1⟩ := at_T40 HR0.out x3_1 p174 q174
         cases e174
         have HR174_1 := Aside0.mk hi174_1
         have HC174_1 := Aside0.mk hl174_1
         clear hi174_1 hl174_1
         replace p174 := eq_true p174
         replace q174 := eq_true q174
         have p175 : 0 ≤ (x3_1 : Int) := of_decide_eq_true hQ
         have q175 : x3_1 < (l0.length : Int) := of_decide_eq_true hQ
         obtain ⟨ad175, A175_1, c175_1, e175, hx175_0, hx175_1, hl175_1, hi175_1⟩ := at_T40 HR0.out x3_1 p175 q175
         obtain rfl : ad174 = ad175 := (by injection e175)
         have HR175_1 := Aside0.mk hi175_1
         have HC175_1 := Aside0.mk hl175_1
         clear hi175_1 hl175_1
         replace p175 := eq_true p175
         replace q175 := eq_true q175
         have ea_ := Option.some.inj (hx174_1.symm.trans hx175_1)
         injection ea_ with ea_ en_ ec_
         subst ea_
         subst ec_
         clear en_
         have p176 : 0 ≤ (x3_1 : Int) := of_decide_eq_true hQ
         have q176 : x3_1 < (l0.length : Int) := of_decide_eq_true hQ
         obtain ⟨ad176, A176_1, c176_1, e176, hx176_0, hx176_1, hl176_1, hi176_1⟩ := at_T40 HR0.out x3_1 p176 q176
         obtain rfl : ad174 = ad176 := (by injection e176)
         have HR176_1 := Aside0.mk hi176_1
         have HC176_1 := Aside0.mk hl176_1
         clear hi176_1 hl176_1
         replace p176 := eq_true p176
         replace q176 := eq_true q176
         have ea_ := Option.some.inj (hx174_1.symm.trans hx176_1)
         injection ea_ with ea_ en_ ec_
         subst ea_
         subst ec_
         clear en_
         go_wp2
         repeat (go_quiet (fail); try go_wp2)
         go_roundg k1
         case measure => have := HK1.out; omega
         case rel => exact ⟨(wrap64 (x3_1 + 1)), sQ, H', ⟨by have := HK1.out; omega⟩, dQ⟩
    ·rw [if_neg c3] at H
     exact absurd H (by simp)
   ·rw [if_neg c2] at H
    have c2b0 : decide (x3_1 < (l0.length : Int)) = false := decide_eq_false c2
    clear c2
    obtain rfl := Option.some.inj H
    go_wp2
    repeat (go_quiet (fail); try go_wp2)
    go_ret
    exact ⟨sQ, dQ⟩
attribute [local go_sem] max2_int min2_int max_two min_two max_three min_three max_four min_four
def berylref20_read.l0 : Nat → List Int → List (S40) → Option ((List (S40)) × Bool)
 | 0, _, _ => none
 | k + 1, x0, x4 => if (x0.length : Int) > 0 then (if (x0.length : Int) < 10 then (some (([] : List (S40)), false)) else (if 8 ≤ (x0.length : Int) then ((berylref20_word.f (x0.drop 8)).bind fun t185 => (if t185 > (wrap64 ((x0.length : Int) - 10)) then (some (([] : List (S40)), false)) else ((berylref20_long.f k x0).bind fun t186 => ((some (([] : List Int) : List Int)).bind fun y187 => (if 10 ≤ (wrap64 (10 + t185)) then (if (wrap64 (10 + t185)) ≤ (x0.length : Int) then ((some ((x0.take ((wrap64 (10 + t185)) : Int).toNat).drop 10 : List Int)).bind fun y190 => (if y187.length + y190.length < 140737488355328 then (if x4.length < 4398046511104 then (if 0 ≤ (wrap64 (10 + t185)) then (berylref20_read.l0 k (x0.drop ((wrap64 (10 + t185)) : Int).toNat) (x4 ++ [(⟨t186, (y187 ++ y190)⟩ : S40)])) else (none)) else (none)) else (none))) else (none)) else (none)))))) else (none))) else ((berylref20_right.f k x4).bind fun t179 => (some (x4, t179)))
def berylref20_read.f (k : Nat) (l0 : List Int) : Option ((List (S40)) × Bool) := berylref20_read.l0 k l0 ([] : List (S40))
theorem berylref20_read.mono_l : ∀ k, (∀ y0 y1, LeO (berylref20_read.l0 k y0 y1) (berylref20_read.l0 (k + 1) y0 y1))
 | 0 => fun _ _ r h => by simp [berylref20_read.l0] at h
 | k + 1 => by
  have ih0 := berylref20_read.mono_l k
  ·intro y0 y1
   unfold berylref20_read.l0
   repeat' first
   | (with_reducible exact ih0 _ _)
   | (with_reducible exact berylref20_long.mono _ _)
   | (with_reducible exact berylref20_right.mono _ _)
   | (with_reducible exact LeO.refl _)
   | (with_reducible exact LeO.none _)
   | (with_reducible refine LeO.ite ?_ ?_)
   | (with_reducible refine LeO.bind ?_ (fun _ => ?_))
   | exact ih0 _ _
   | exact berylref20_long.mono _ _
   | exact berylref20_right.mono _ _
   | exact LeO.none _
   | refine LeO.ite ?_ ?_
   | refine LeO.bind ?_ (fun _ => ?_)
theorem berylref20_read.mono : ∀ a0 k, LeO (berylref20_read.f k a0) (berylref20_read.f (k + 1) a0) := by
 intro a0 k
 have ih0 := berylref20_read.mono_l k
 unfold berylref20_read.f
 repeat' first
   | (with_reducible exact ih0 _ _)
   | (with_reducible exact berylref20_long.mono _ _)
   | (with_reducible exact berylref20_right.mono _ _)
   | (with_reducible exact LeO.refl _)
   | (with_reducible exact LeO.none _)
   | (with_reducible refine LeO.ite ?_ ?_)
   | (with_reducible refine LeO.bind ?_ (fun _ => ?_))
   | exact ih0 _ _
   | exact berylref20_long.mono _ _
   | exact berylref20_right.mono _ _
   | exact LeO.none _
   | refine LeO.ite ?_ ?_
   | refine LeO.bind ?_ (fun _ => ?_)
def berylref20_read.T8 : Bool × List (List Nat × List Nat) := (true, [([], []), ([], []), ([1], [1]), ([], []), ([], []), ([], []), ([5], [5]), ([4, 6], [4, 6]), ([3, 7, 2], [3, 7]), ([2, 8], [2, 8]), ([9], [9]), ([0, 10, 8], [0, 10]), ([11, 11, 0, 1, 2, 3, 4, 5, 6, 7, 8, 9, 10, 11], [0, 11])])
def berylref20_read.B8 : List Nat := [0, 0, 2, 0, 0, 0, 32, 112, 254, 510, 1022, 2047, 4095]
theorem berylref20_read.tab8 : rtab .any (opsOf Tryz.f73 8) = berylref20_read.T8 := by kernel_rfl
theorem berylref20_read.bits8 : waitsOk berylref20_read.T8.2 berylref20_read.B8 = true := by kernel_rfl
set_option maxHeartbeats 8000000 in
set_option maxRecDepth 100000 in
theorem berylref20_read.calls (k : Nat) (P0_ : Nat → Prop) (A0 : Option Addr) (c0 : Nat) (l0 : List Int) (r1 : List (S40)) (r2 : Bool) (w : World) (hs0 : Kd.V (Kd.int .u8) 5 w w.heap.size (fun k_ => P0_ k_) (.slice A0 l0.length c0) l0) (h : berylref20_read.f k l0 = some (r1, r2)) :
  Calls Tryz.prog 73 #[.slice A0 l0.length c0] w fun e w' => ∃ v0_ : Value, e = .returned (.tuple #[v0_, .bool r2]) ∧ Kd.S k40 40 w' w.heap.size (fun k_ => (w.heap.size ≤ k_)) v0_ r1 ∧ Below w.heap.size w w' := by
 have hu40 := Tryz.underlying40
 have HO0 := Aside0.mk (show Kd.V (Kd.int .u8) 5 w w.heap.size (fun k_ => (P0_ k_ ∨ w.heap.size ≤ k_)) (.slice A0 l0.length c0) l0 from Kd.V_mono hs0 (fun k_ hk => .inl hk))
 have HB := Aside0.mk (Below.refl w.heap.size w)
 have H : (berylref20_read.l0 k l0 ([] : List (S40))) = some (r1, r2) := h
 clear h
 have H' := Aside0.mk H
 clear H
 go_enter Tryz.func73, Tryz.ntmps73
 go_wp2
 go_loopg [0, 4] k (fun kq v0 v4 w' => ∃ (x0_1 : List Int) (x4_1 : List (S40)), Aside0 (berylref20_read.l0 kq x0_1 x4_1 = some (r1, r2)) ∧ Aside0 (kq ≤ k) ∧ Aside0 (Kd.V (Kd.int .u8) 5 w' w.heap.size (fun k_ => (P0_ k_ ∨ w.heap.size ≤ k_) ∧ some k_ ≠ (v4 : Value).ownBlock) v0 x0_1) ∧ Aside0 (Kd.S k40 40 w' w.heap.size (fun k_ => (w.heap.size ≤ k_)) v4 x4_1) ∧ Aside0 (Below w.heap.size w w'))
 case atStart => exact ⟨(l0), (([] : List (S40))), H', ⟨Nat.le_refl _⟩, ⟨by (with_reducible repeat (first | apply Kd.V_alloc | apply Kd.V_drewN | apply Kd.V_drew)); exact Kd.V_mono HO0.out (fun _ hk => ⟨hk, (by simp [Value.ownBlock])⟩)⟩, ⟨by first | exact Kd.S_nil _ _ _ _ _ | exact Kd.N_nil _ _ _ _ _ | exact Kd.V_nil _ _ _ _ _ | exact Kd.Q_nil _ _ _ _ _ | exact Kd.R_nil _ _ _ _ _⟩, ⟨bQ⟩⟩
 case round =>
  clear H'
  obtain ⟨x0_1, x4_1, HA, HK1, HO_0, HO_4, HB⟩ := hrel
  cases gk with
  | zero => exact absurd HA.out (by simp [berylref20_read.l0])
  | succ k1 =>
   have H := HA.out
   clear HA
   simp only [berylref20_read.l0] at H
   by_cases c2 : (x0_1.length : Int) > 0
   ·rw [if_pos c2] at H
    have c2b0 : decide (0 < (x0_1.length : Int)) = true := decide_eq_true c2
    have c2b1 : decide (0 < x0_1.length) = true := decide_eq_true (by omega)
    clear c2
    by_cases c3 : (x0_1.length : Int) < 10
    ·rw [if_pos c3] at H
     have c3b0 : decide ((x0_1.length : Int) < 10) = true := decide_eq_true c3
     have c3b1 : decide (x0_1.length < 10) = true := decide_eq_true (by omega)
     clear c3
     simp only [Option.some.injEq, Prod.mk.injEq] at H
     obtain ⟨rfl, rfl⟩ := H
     obtain ⟨Ao4, co4, eo4⟩ := Kd.V_slice HO_0.out
     subst eo4
     go_wp2
     go_ret2
     exact ⟨_, eQ, by first | exact Kd.S_nil _ _ _ _ _ | exact Kd.N_nil _ _ _ _ _ | exact Kd.V_nil _ _ _ _ _ | exact Kd.Q_nil _ _ _ _ _ | exact Kd.R_nil _ _ _ _ _, bQ⟩
    ·rw [if_neg c3] at H
     have c3b0 : decide ((x0_1.length : Int) < 10) = false := decide_eq_false c3
     have c3b1 : decide (x0_1.length < 10) = false := decide_eq_false (by omega)
     clear c3
     by_cases c5 : 8 ≤ (x0_1.length : Int)
     ·rw [if_pos c5] at H
      have c5b0 := eq_true c5
      have c5b1 : decide (8 ≤ (x0_1.length : Int)) = true := decide_eq_true c5
      clear c5
      obtain ⟨y180, hy180⟩ : ∃ y_ : List Int, y_ = (x0_1.drop 8) := ⟨_, rfl⟩
      replace H : ((berylref20_word.f y180).bind fun t185 => (if t185 > (wrap64 ((x0_1.length : Int) - 10)) then (some (([] : List (S40)), false)) else ((berylref20_long.f k1 x0_1).bind fun t186 => ((some (([] : List Int) : List Int)).bind fun y187 => (if 10 ≤ (wrap64 (10 + t185)) then (if (wrap64 (10 + t185)) ≤ (x0_1.length : Int) then ((some ((x0_1.take ((wrap64 (10 + t185)) : Int).toNat).drop 10 : List Int)).bind fun y190 => (if y187.length + y190.length < 140737488355328 then (if x4_1.length < 4398046511104 then (if 0 ≤ (wrap64 (10 + t185)) then (berylref20_read.l0 k1 (x0_1.drop ((wrap64 (10 + t185)) : Int).toNat) (x4_1 ++ [(⟨t186, (y187 ++ y190)⟩ : S40)])) else (none)) else (none)) else (none))) else (none)) else (none)))))) = some (r1, r2) := by first | (rw [hy180]; with_reducible exact H) | (have H2_ := (Option.bind_some _ _).symm.trans H; rw [hy180]; with_reducible exact H2_) | (have H2_ := (Option.bind_some _ _).symm.trans H; with_reducible exact H2_) | with_reducible exact H | (rw [hy180]; exact H) | exact H
      have Ny180 := Aside0.mk hy180
      clear hy180
      replace H := Option.bind_eq_some_iff.mp H
      obtain ⟨t185, A60, H⟩ := H
      have A6 := Aside0.mk A60
      clear A60
      by_cases c7 : t185 > (wrap64 ((x0_1.length : Int) - 10))
      ·rw [if_pos c7] at H
       have c7b0 : decide ((wrap64 ((x0_1.length : Int) - 10)) < t185) = true := decide_eq_true c7
       clear c7
       simp only [Option.some.injEq, Prod.mk.injEq] at H
       obtain ⟨rfl, rfl⟩ := H
       obtain ⟨Ao8, co8, eo8⟩ := Kd.V_slice HO_0.out
       subst eo8
       have q9 : (8 : Int) ≤ ((x0_1.length : Int) : Int) := of_decide_eq_true hQ
       obtain ⟨i09, hi09, _, hsz9, _⟩ := info_parts info5
       have hroom9 : x0_1.length ≤ co8 := (Kd.V_reads' HO_0.out).2.1
       have hC9 : Kd.F (Kd.int .u8) _ _ Ao8 x0_1.length x0_1 := (Kd.V_at (base := w.heap.size) HO_0.out).2.2
       have hcut9 := cut_from (P := Tryz.prog) 22 5 .i64 Tryz.underlying22 hi09 1 hsz9 Ao8 x0_1.length co8 8 (by omega) q9
       have hr9 := Kd.F_cut (m := (8 : Int).toNat) (c := co8) hC9 (by omega) hroom9
       obtain ⟨A9, hA9⟩ : ∃ A1, A1 = (if co8 = (8 : Int).toNat then Ao8 else (Ao8 : Option Addr).map (·.add ((8 : Int).toNat * 1))) := ⟨_, rfl⟩
       obtain ⟨c9, hc9⟩ : ∃ c1, c1 = co8 - (8 : Int).toNat := ⟨_, rfl⟩
       have hy9 : y180.length = x0_1.length - (8 : Int).toNat := (by rw [Ny180.out, List.length_drop] <;> omega)
       rw [show (x0_1).drop (8 : Int).toNat = y180 from Ny180.out.symm] at hr9
       replace hr9 : Kd.F (Kd.int .u8) _ _ A9 y180.length y180 := (by rw [hA9]; exact hr9)
       rw [← hy9, ← hA9, ← hc9] at hcut9
       have HO184 := Aside0.mk (show Kd.V (Kd.int .u8) 5 _ w.heap.size _ (.slice A9 y180.length c9) y180 from Kd.V_mk (by rw [hy9, hc9]; exact Nat.sub_le_sub_right hroom9 _) hr9)
       have HC184 := Aside0.mk (show y180.length ≤ c9 from by rw [hy9, hc9]; exact Nat.sub_le_sub_right hroom9 _)
       clear hr9 hC9 hroom9 hi09 hsz9 hc9
       have KY9 := Aside0.mk hy9
       have KA9 := Aside0.mk hA9
       clear hy9 hA9
       replace q9 := eq_true q9
       go_wp2_with (first | ((with_reducible refine gate_callee (f := 72) rfl ?_); refine goesL_ (some 14) rfl rfl Tryz.func72 (by kernel_rfl) rfl #[.slice A9 y180.length c9] rfl aQ ?_; (with_reducible refine (berylref20_word.calls _ _ y180 t185 _ ?side1 ?side2 A6.out).mono ?_); (case side1 => exact cQ (Kd.V_reads' HO184.out).2.2); (case side2 => exact (Kd.V_reads' HO184.out).2.1); rintro e w' ⟨rfl, ⟨nd, rfl⟩⟩; refine ⟨_, rfl, ?_⟩))
       go_ret2
       exact ⟨_, eQ, by first | exact Kd.S_nil _ _ _ _ _ | exact Kd.N_nil _ _ _ _ _ | exact Kd.V_nil _ _ _ _ _ | exact Kd.Q_nil _ _ _ _ _ | exact Kd.R_nil _ _ _ _ _, bQ⟩
      ·rw [if_neg c7] at H
       have c7b0 : decide ((wrap64 ((x0_1.length : Int) - 10)) < t185) = false := decide_eq_false c7
       clear c7
       replace H := Option.bind_eq_some_iff.mp H
       obtain ⟨t186, A100, H⟩ := H
       have A10 := Aside0.mk A100
       clear A100
       obtain ⟨y187, hy187⟩ : ∃ y_ : List Int, y_ = (([] : List Int)) := ⟨_, rfl⟩
       replace H : (if 10 ≤ (wrap64 (10 + t185)) then (if (wrap64 (10 + t185)) ≤ (x0_1.length : Int) then ((some ((x0_1.take ((wrap64 (10 + t185)) : Int).toNat).drop 10 : List Int)).bind fun y190 => (if y187.length + y190.length < 140737488355328 then (if x4_1.length < 4398046511104 then (if 0 ≤ (wrap64 (10 + t185)) then (berylref20_read.l0 k1 (x0_1.drop ((wrap64 (10 + t185)) : Int).toNat) (x4_1 ++ [(⟨t186, (y187 ++ y190)⟩ : S40)])) else (none)) else (none)) else (none))) else (none)) else (none)) = some (r1, r2) := by first | (rw [hy187]; with_reducible exact H) | (have H2_ := (Option.bind_some _ _).symm.trans H; rw [hy187]; with_reducible exact H2_) | (have H2_ := (Option.bind_some _ _).symm.trans H; with_reducible exact H2_) | with_reducible exact H | (rw [hy187]; exact H) | exact H
       have Ny187 := Aside0.mk hy187
       clear hy187
       by_cases c11 : 10 ≤ (wrap64 (10 + t185))
       ·rw [if_pos c11] at H
        have c11b0 := eq_true c11
        have c11b1 : decide (10 ≤ (wrap64 (10 + t185))) = true := decide_eq_true c11
        by_cases c12 : (wrap64 (10 + t185)) ≤ (x0_1.length : Int)
        ·rw [if_pos c12] at H
         have c12b0 := eq_true c12
         have c12b1 : decide ((wrap64 (10 + t185)) ≤ (x0_1.length : Int)) = true := decide_eq_true c12
         obtain ⟨y190, hy190⟩ : ∃ y_ : List Int, y_ = ((x0_1.take ((wrap64 (10 + t185)) : Int).toNat).drop 10) := ⟨_, rfl⟩
         replace H : (if y187.length + y190.length < 140737488355328 then (if x4_1.length < 4398046511104 then (if 0 ≤ (wrap64 (10 + t185)) then (berylref20_read.l0 k1 (x0_1.drop ((wrap64 (10 + t185)) : Int).toNat) (x4_1 ++ [(⟨t186, (y187 ++ y190)⟩ : S40)])) else (none)) else (none)) else (none)) = some (r1, r2) := by first | (rw [hy190]; with_reducible exact H) | (have H2_ := (Option.bind_some _ _).symm.trans H; rw [hy190]; with_reducible exact H2_) | (have H2_ := (Option.bind_some _ _).symm.trans H; with_reducible exact H2_) | with_reducible exact H | (rw [hy190]; exact H) | exact H
         have Ny190 := Aside0.mk hy190
         clear hy190
         by_cases c13 : y187.length + y190.length < 140737488355328
         ·rw [if_pos c13] at H
          have LMc13 := Aside0.mk c13
          clear c13
          obtain ⟨y195, hy195⟩ : ∃ y_ : List Int, y_ = (y187 ++ y190) := ⟨_, rfl⟩
          replace H : (if x4_1.length < 4398046511104 then (if 0 ≤ (wrap64 (10 + t185)) then (berylref20_read.l0 k1 (x0_1.drop ((wrap64 (10 + t185)) : Int).toNat) (x4_1 ++ [(⟨t186, y195⟩ : S40)])) else (none)) else (none)) = some (r1, r2) := by first | (rw [hy195]; with_reducible exact H) | (have H2_ := (Option.bind_some _ _).symm.trans H; rw [hy195]; with_reducible exact H2_) | (have H2_ := (Option.bind_some _ _).symm.trans H; with_reducible exact H2_) | with_reducible exact H | (rw [hy195]; exact H) | exact H
          have Ny195 := Aside0.mk hy195
          clear hy195
          by_cases c14 : x4_1.length < 4398046511104
          ·rw [if_pos c14] at H
           have LMc14 := Aside0.mk c14
           clear c14
           obtain ⟨y198, hy198⟩ : ∃ y_ : List (S40), y_ = (x4_1 ++ [(⟨t186, y195⟩ : S40)]) := ⟨_, rfl⟩
           replace H : (if 0 ≤ (wrap64 (10 + t185)) then (berylref20_read.l0 k1 (x0_1.drop ((wrap64 (10 + t185)) : Int).toNat) y198) else (none)) = some (r1, r2) := by first | (rw [hy198]; with_reducible exact H) | (have H2_ := (Option.bind_some _ _).symm.trans H; rw [hy198]; with_reducible exact H2_) | (have H2_ := (Option.bind_some _ _).symm.trans H; with_reducible exact H2_) | with_reducible exact H | (rw [hy198]; exact H) | exact H
           have Ny198 := Aside0.mk hy198
           clear hy198
           obtain ⟨ji15, hji15⟩ : ∃ j_ : Int, (wrap64 (10 + t185)) = j_ := ⟨_, rfl⟩
           replace H : (if 0 ≤ (ji15) then (berylref20_read.l0 k1 (x0_1.drop ((ji15) : Int).toNat) y198) else (none)) = some (r1, r2) := by first | (rw [hji15] at H; exact H) | (simp only [hji15] at H ⊢; exact H)
           (try rw [hji15] at c11b0)
           (try rw [hji15] at c11b1)
           (try rw [hji15] at c11)
           (try rw [hji15] at c12b0)
           (try rw [hji15] at c12b1)
           (try rw [hji15] at c12)
           (try rw [hji15] at A6)
           (try rw [hji15] at A10)
           (try rw [hji15] at Ny190)
           (try rw [hji15] at Ny190)
           have hji15w : (IntKind.i64.wrap (10 + t185)) = ji15 := (i64_w _).trans hji15
           by_cases c16 : 0 ≤ (ji15)
           ·rw [if_pos c16] at H
            have c16b0 := eq_true c16
            have c16b1 : decide (0 ≤ (ji15)) = true := decide_eq_true c16
            clear c16
            have c17b0 := eq_true (of_decide_eq_true hQ : (ji15) ≤ (x0_1.length : Int))
            obtain ⟨y201, hy201⟩ : ∃ y_ : List Int, y_ = (x0_1.drop ((ji15) : Int).toNat) := ⟨_, rfl⟩
            replace H : (berylref20_read.l0 k1 y201 y198) = some (r1, r2) := by first | (rw [hy201]; with_reducible exact H) | (have H2_ := (Option.bind_some _ _).symm.trans H; rw [hy201]; with_reducible exact H2_) | (have H2_ := (Option.bind_some _ _).symm.trans H; with_reducible exact H2_) | with_reducible exact H | (rw [hy201]; exact H) | exact H
            have Ny201 := Aside0.mk hy201
            clear hy201
            have H' := Aside0.mk H
            clear H
            obtain ⟨Ao18, co18, eo18⟩ := Kd.V_slice HO_0.out
            subst eo18
            have q19 : (8 : Int) ≤ ((x0_1.length : Int) : Int) := of_decide_eq_true hQ
            obtain ⟨i019, hi019, _, hsz19, _⟩ := info_parts info5
            have hroom19 : x0_1.length ≤ co18 := (Kd.V_reads' HO_0.out).2.1
            have hC19 : Kd.F (Kd.int .u8) _ _ Ao18 x0_1.length x0_1 := (Kd.V_at (base := w.heap.size) HO_0.out).2.2
            have hcut19 := cut_from (P := Tryz.prog) 22 5 .i64 Tryz.underlying22 hi019 1 hsz19 Ao18 x0_1.length co18 8 (by omega) q19
            have hr19 := Kd.F_cut (m := (8 : Int).toNat) (c := co18) hC19 (by omega) hroom19
            obtain ⟨A19, hA19⟩ : ∃ A1, A1 = (if co18 = (8 : Int).toNat then Ao18 else (Ao18 : Option Addr).map (·.add ((8 : Int).toNat * 1))) := ⟨_, rfl⟩
            obtain ⟨c19, hc19⟩ : ∃ c1, c1 = co18 - (8 : Int).toNat := ⟨_, rfl⟩
            have hy19 : y180.length = x0_1.length - (8 : Int).toNat := (by rw [Ny180.out, List.length_drop] <;> omega)
            rw [show (x0_1).drop (8 : Int).toNat = y180 from Ny180.out.symm] at hr19
            replace hr19 : Kd.F (Kd.int .u8) _ _ A19 y180.length y180 := (by rw [hA19]; exact hr19)
            rw [← hy19, ← hA19, ← hc19] at hcut19
            have HO184 := Aside0.mk (show Kd.V (Kd.int .u8) 5 _ w.heap.size _ (.slice A19 y180.length c19) y180 from Kd.V_mk (by rw [hy19, hc19]; exact Nat.sub_le_sub_right hroom19 _) hr19)
            have HC184 := Aside0.mk (show y180.length ≤ c19 from by rw [hy19, hc19]; exact Nat.sub_le_sub_right hroom19 _)
            clear hr19 hC19 hroom19 hi019 hsz19 hc19
            have KY19 := Aside0.mk hy19
            have KA19 := Aside0.mk hA19
            clear hy19 hA19
            replace q19 := eq_true q19
            try go_wp2_with (first | ((with_reducible refine gate_callee (f := 72) rfl ?_); refine goesL_ (some 14) rfl rfl Tryz.func72 (by kernel_rfl) rfl #[.slice A19 y180.length c19] rfl aQ ?_; (with_reducible refine (berylref20_word.calls _ _ y180 t185 _ ?side1 ?side2 A6.out).mono ?_); (case side1 => exact cQ (Kd.V_reads' HO184.out).2.2); (case side2 => exact (Kd.V_reads' HO184.out).2.1); rintro e w' ⟨rfl, ⟨nd, rfl⟩⟩; refine ⟨_, rfl, ?_⟩; obtain ⟨Ao20, co20, eo20⟩ := Kd.S_slice HO_4.out; subst eo20))
            (try (rw [drewN_self wr]; generalize hq_ : World.drewN wr _ = wr; have n0_ : Aside0 (Kd.V (Kd.int .u8) 5 wr w.heap.size (fun k_ => (P0_ k_ ∨ w.heap.size ≤ k_) ∧ some k_ ≠ (.slice Ao20 x4_1.length co20 : Value).ownBlock) (.slice A19 y180.length c19) y180) := ⟨by rw [← hq_]; exact (rQ HO184.out)⟩; have n1_ : Aside0 (Kd.V (Kd.int .u8) 5 wr w.heap.size (fun k_ => (P0_ k_ ∨ w.heap.size ≤ k_) ∧ some k_ ≠ (.slice Ao20 x4_1.length co20 : Value).ownBlock) (.slice Ao18 x0_1.length co18) x0_1) := ⟨by rw [← hq_]; exact (rQ HO_0.out)⟩; have n2_ : Aside0 (Kd.S k40 40 wr w.heap.size (fun k_ => (w.heap.size ≤ k_)) (.slice Ao20 x4_1.length co20) x4_1) := ⟨by rw [← hq_]; exact (rQ HO_4.out)⟩; have n3_ : Aside0 (Below w.heap.size w wr) := ⟨by rw [← hq_]; exact bQ⟩; clear HO184 HO_0 HO_4 HB hq_; have HO184 := n0_; have HO_0 := n1_; have HO_4 := n2_; have HB := n3_; clear n0_ n1_ n2_ n3_))
            have n0_ := Aside0.mk (Kd.V_drew HO_0.out)
            have n1_ := Aside0.mk (Kd.S_drew HO_4.out)
            have n2_ := Aside0.mk (Kd.V_drew HO184.out)
            have n3_ := Aside0.mk (below_drew1 HB.out)
            clear HO_0
            clear HO_4
            clear HO184
            clear HB
            have HO_0 := n0_
            have HO_4 := n1_
            have HO184 := n2_
            have HB := n3_
            clear n0_ n1_ n2_ n3_
            have q22 : ((ji15) : Int) ≤ ((x0_1.length : Int) : Int) := of_decide_eq_true hQ
            obtain ⟨i022, hi022, _, hsz22, _⟩ := info_parts info5
            have hroom22 : x0_1.length ≤ co18 := (Kd.V_reads' HO_0.out).2.1
            have hC22 : Kd.F (Kd.int .u8) _ _ Ao18 x0_1.length x0_1 := (Kd.V_at (base := w.heap.size) HO_0.out).2.2
            have ql22 : (10 : Int) ≤ ((ji15) : Int) := of_decide_eq_true hQ
            have hcut22 := cut_mid (P := Tryz.prog) 22 5 .i64 .i64 Tryz.underlying22 hi022 1 hsz22 Ao18 x0_1.length co18 10 (ji15) (by omega) ql22 q22 hroom22
            have hr22 := Kd.F_mid (lo := (10 : Int).toNat) (hi := ((ji15) : Int).toNat) (c := co18) hC22 (by omega) (by omega) hroom22
            obtain ⟨A22, hA22⟩ : ∃ A1, A1 = (if co18 = (10 : Int).toNat then Ao18 else (Ao18 : Option Addr).map (·.add ((10 : Int).toNat * 1))) := ⟨_, rfl⟩
            obtain ⟨c22, hc22⟩ : ∃ c1, c1 = co18 - (10 : Int).toNat := ⟨_, rfl⟩
            have hy22 : y190.length = ((ji15) : Int).toNat - (10 : Int).toNat := (by rw [Ny190.out, List.length_drop, List.length_take] <;> omega)
            rw [show ((x0_1).take ((ji15) : Int).toNat).drop (10 : Int).toNat = y190 from Ny190.out.symm] at hr22
            replace hr22 : Kd.F (Kd.int .u8) _ _ A22 y190.length y190 := (by rw [hA22]; exact hr22)
            rw [← hy22, ← hA22, ← hc22] at hcut22
            have HO194 := Aside0.mk (show Kd.V (Kd.int .u8) 5 _ w.heap.size _ (.slice A22 y190.length c22) y190 from Kd.V_mk (by rw [hy22, hc22]; exact Nat.sub_le_sub_right (Nat.le_trans (by omega) hroom22) _) hr22)
            have HC194 := Aside0.mk (show y190.length ≤ c22 from by rw [hy22, hc22]; exact Nat.sub_le_sub_right (Nat.le_trans (by omega) hroom22) _)
            clear hr22 hC22 hroom22 hi022 hsz22 hc22
            have KY22 := Aside0.mk hy22
            have KA22 := Aside0.mk hA22
            clear hy22 hA22
            replace q22 := eq_true q22
            refine start_ (n := 13) (S := fun w' => True) (ds := []) #[false, false, false, false, false, false, false, false, false, false, false, false, false] (by kernel_rfl) rfl rfl trivial (fun hHeld => ?_); refine with_tabW berylref20_read.tab8 berylref20_read.bits8 (fun HT_ HW_ => ?_)
            generalize wr.drew = w21 at HO_0 HO_4 HO184 HB HO194 hHeld ⊢
            refine pure_ (i := 0) (N := some 20) (v := ?_) (a' := ?_) #[true, false, false, false, false, false, false, false, false, false, false, false, false] rfl rfl (any_of HT_.out (by kernel_rfl)) (fun _ _ _ h => h) (Or.inl ⟨by rfl, ?_⟩) ?_ ?_
            rotate_left
            ·intro w'
             go_simp
             with_reducible rfl
            rotate_left
            ·simp only [Act.put, List.setIfInBounds_toArray, List.set_cons_zero, List.set_cons_succ, i64_w, i32_w]
             rfl
            refine pure_ (i := 1) (N := some 21) (v := ?_) (a' := ?_) #[true, true, false, false, false, false, false, false, false, false, false, false, false] rfl rfl (any_of HT_.out (by kernel_rfl)) (fun _ _ _ h => h) (Or.inl ⟨by rfl, ?_⟩) ?_ ?_
            rotate_left
            ·intro w'
             go_simp
             with_reducible rfl
            rotate_left
            ·simp only [Act.put, List.setIfInBounds_toArray, List.set_cons_zero, List.set_cons_succ, i64_w, i32_w]
             rfl
            refine pure_ (i := 4) (N := some 24) (v := ?_) (a' := ?_) #[true, true, false, false, true, false, false, false, false, false, false, false, false] rfl rfl (any_of HT_.out (by kernel_rfl)) (fun _ _ _ h => h) (Or.inl ⟨by rfl, ?_⟩) ?_ ?_
            rotate_left
            ·intro w'
             go_simp
             with_reducible rfl
            rotate_left
            ·simp only [Act.put, List.setIfInBounds_toArray, List.set_cons_zero, List.set_cons_succ, i64_w, i32_w]
             rfl
            refine pure_ (i := 5) (N := some 25) (v := ?_) (a' := ?_) #[true, true, false, false, true, true, false, false, false, false, false, false, false] rfl rfl (any_of HT_.out (by kernel_rfl)) (fun _ _ _ h => h) (Or.inl ⟨by rfl, ?_⟩) ?_ ?_
            rotate_left
            ·intro w'
             go_simp
             with_reducible rfl
            rotate_left
            ·simp only [Act.put, List.setIfInBounds_toArray, List.set_cons_zero, List.set_cons_succ, i64_w, i32_w]
             rfl
            refine pure_ (i := 6) (N := some 26) (v := ?_) (a' := ?_) #[true, true, false, false, true, true, true, false, false, false, false, false, false] rfl rfl (any_of HT_.out (by kernel_rfl)) (fun _ _ _ h => h) (Or.inl ⟨by rfl, ?_⟩) ?_ ?_
            rotate_left
            ·intro w'
             go_simp
             with_reducible rfl
            rotate_left
            ·simp only [Act.put, List.setIfInBounds_toArray, List.set_cons_zero, List.set_cons_succ, i64_w, i32_w]
             rfl
            refine pure_ (i := 7) (N := some 27) (v := ?_) (a' := ?_) #[true, true, false, false, true, true, true, true, false, false, false, false, false] rfl rfl (any_of HT_.out (by kernel_rfl)) (fun _ _ _ h => h) (Or.inl ⟨by rfl, ?_⟩) ?_ ?_
            rotate_left
            ·intro w'
             go_simp
             with_reducible rfl
            rotate_left
            ·simp only [Act.put, List.setIfInBounds_toArray, List.set_cons_zero, List.set_cons_succ, i64_w, i32_w]
             rfl
            refine join_ (σ := Value) 5 #[true, true, true, true, true, true, true, true, false, false, false, false, false] (fun s_ => [(22, .int .i64 t186), (23, s_)]) (fun s_ w' => (Kd.V (Kd.int .u8) 5 w' w.heap.size (fun k_ => (P0_ k_ ∨ w.heap.size ≤ k_) ∧ some k_ ≠ (s_ : Value).ownBlock ∧ some k_ ≠ (.slice Ao20 x4_1.length co20 : Value).ownBlock) (.slice A19 y180.length c19) y180) ∧ (Kd.R (Kd.int .u8) 5 w' w.heap.size (fun k_ => (w.heap.size ≤ k_)) s_ y187) ∧ (Kd.V (Kd.int .u8) 5 w' w.heap.size (fun k_ => (P0_ k_ ∨ w.heap.size ≤ k_) ∧ some k_ ≠ (s_ : Value).ownBlock ∧ some k_ ≠ (.slice Ao20 x4_1.length co20 : Value).ownBlock) (.slice A22 y190.length c22) y190) ∧ (Kd.V (Kd.int .u8) 5 w' w.heap.size (fun k_ => (P0_ k_ ∨ w.heap.size ≤ k_) ∧ some k_ ≠ (s_ : Value).ownBlock ∧ some k_ ≠ (.slice Ao20 x4_1.length co20 : Value).ownBlock) (.slice Ao18 x0_1.length co18) x0_1) ∧ (Kd.S k40 40 w' w.heap.size (fun k_ => (w.heap.size ≤ k_) ∧ some k_ ≠ (s_ : Value).ownBlock) (.slice Ao20 x4_1.length co20) x4_1) ∧ (Below w.heap.size w w')) ?_ ?_
            rotate_left
            ·intro hCont
             refine two_ (i := 2) (j := 3) (Ni := some 22) (Nj := some 23) #[true, true, true, false, true, true, true, true, false, false, false, false, false] #[true, true, false, true, true, true, true, true, false, false, false, false, false] rfl rfl rfl rfl (two_of HT_.out (by kernel_rfl)) (by decide) (by decide) (fun K hK => ?_) (fun K hK => ?_)
             ·skip
              refine goes_ Tryz.func71 (by kernel_rfl) rfl #[.slice Ao18 x0_1.length co18] (by rfl) rfl rfl aQ ?_
              with_reducible refine (berylref20_long.calls k1 _ _ x0_1 t186 _ ?side1 ?side2 A10.out).mono ?_
              (case side1 => exact cQ (Kd.V_reads' HO_0.out).2.2)
              (case side2 => exact (Kd.V_reads' HO_0.out).2.1)
              rintro e w' ⟨rfl, ⟨nd, rfl⟩⟩
              refine ⟨_, rfl, ?_⟩
              refine hK.out _ _ trivial (fun hHeld => ?_)
              clear hK K
              refine norm_ (a' := ?_) ?_ ?_
              rotate_left
              ·show Act.put _ (some 22) _ = _
               simp only [Act.put, List.setIfInBounds_toArray, List.set_cons_zero, List.set_cons_succ, i64_w, i32_w]
               rfl
              refine one_ (i := 3) (N := some 23) #[true, true, true, true, true, true, true, true, false, false, false, false, false] rfl rfl (one_of HT_.out (by kernel_rfl)) (by decide) (fun K hK => ?_)
              refine Kd.R_lit_step (Kd.int .u8) _ 5 ?hg (N := 23) ?hd (xs := ([] : List Int)) (inner := []) (ok := fun _ => True) (okp := fun _ => True) ?hr ?hp (fun _ hk => hk) trivial (Below.refl _ _) (Nat.le_refl _) (by simp) ?_; (case hd => rfl); (case hg => rfl); (case hr => first | (go_simp; done) | (go_simp; rfl)); (case hp => exact (Reps.none _ _))
              intro v188 w23 ho24 hb hg_ hnew_
              clear hg_ hnew_
              (first | rw [← Ny187.out] at ho24 | (simp only [Int.reduceToNat] at ho24; rw [← Ny187.out] at ho24))
              have n0_ := Aside0.mk (Kd.V_elder' (rQ HO_0.out) (Kd.R_base ho24) hb)
              have n1_ := Aside0.mk (Kd.S_elder' (rQ HO_4.out) (Kd.R_base ho24) hb)
              have n2_ := Aside0.mk (Kd.V_elder' (rQ HO184.out) (Kd.R_base ho24) hb)
              have n3_ := Aside0.mk (Kd.V_elder' (rQ HO194.out) (Kd.R_base ho24) hb)
              have n4_ := Aside0.mk (Kd.R_lower (Kd.R_newM (M := fun k_ => (w.heap.size ≤ k_)) ho24 (below_size bQ) (fun k_ h_ => h_)) (below_size bQ))
              have n5_ := Aside0.mk (below_step bQ hb)
              clear HO_0
              clear HO_4
              clear HO184
              clear HO194
              clear HB
              have HO_0 := n0_
              have HO_4 := n1_
              have HO184 := n2_
              have HO194 := n3_
              have HO189 := n4_
              have HB := n5_
              clear n0_ n1_ n2_ n3_ n4_ n5_
              clear hb ho24
              refine hK.out _ _ trivial (fun hHeld => ?_)
              clear hK K
              refine norm_ (a' := ?_) ?_ ?_
              rotate_left
              ·show Act.put _ (some 23) _ = _
               simp only [Act.put, List.setIfInBounds_toArray, List.set_cons_zero, List.set_cons_succ, i64_w, i32_w]
               rfl
              exact norm_ (by simp only [putAll, Act.put, List.setIfInBounds_toArray, List.set_cons_zero, List.set_cons_succ]) (hCont (v188) _ ⟨(by (with_reducible repeat (first | apply Kd.V_alloc | apply Kd.V_drewN | apply Kd.V_drew)); exact Kd.V_mono HO184.out (fun _ hk => ⟨hk.1.1, ⟨hk.2, hk.1.2⟩⟩)), (by (with_reducible repeat (first | apply Kd.R_alloc | apply Kd.R_drewN | apply Kd.R_drew)); exact Kd.R_mono HO189.out (fun _ hk => hk.1)), (by (with_reducible repeat (first | apply Kd.V_alloc | apply Kd.V_drewN | apply Kd.V_drew)); exact Kd.V_mono HO194.out (fun _ hk => ⟨hk.1.1, ⟨hk.2, hk.1.2⟩⟩)), (by (with_reducible repeat (first | apply Kd.V_alloc | apply Kd.V_drewN | apply Kd.V_drew)); exact Kd.V_mono HO_0.out (fun _ hk => ⟨hk.1.1, ⟨hk.2, hk.1.2⟩⟩)), (rQ HO_4.out), bQ⟩)
             ·skip
              refine Kd.R_lit_step (Kd.int .u8) _ 5 ?hg (N := 23) ?hd (xs := ([] : List Int)) (inner := []) (ok := fun _ => True) (okp := fun _ => True) ?hr ?hp (fun _ hk => hk) trivial (Below.refl _ _) (Nat.le_refl _) (by simp) ?_; (case hd => rfl); (case hg => rfl); (case hr => first | (go_simp; done) | (go_simp; rfl)); (case hp => exact (Reps.none _ _))
              intro v188 w23 ho24 hb hg_ hnew_
              clear hg_ hnew_
              (first | rw [← Ny187.out] at ho24 | (simp only [Int.reduceToNat] at ho24; rw [← Ny187.out] at ho24))
              have n0_ := Aside0.mk (Kd.V_elder' (rQ HO_0.out) (Kd.R_base ho24) hb)
              have n1_ := Aside0.mk (Kd.S_elder' (rQ HO_4.out) (Kd.R_base ho24) hb)
              have n2_ := Aside0.mk (Kd.V_elder' (rQ HO184.out) (Kd.R_base ho24) hb)
              have n3_ := Aside0.mk (Kd.V_elder' (rQ HO194.out) (Kd.R_base ho24) hb)
              have n4_ := Aside0.mk (Kd.R_lower (Kd.R_newM (M := fun k_ => (w.heap.size ≤ k_)) ho24 (below_size bQ) (fun k_ h_ => h_)) (below_size bQ))
              have n5_ := Aside0.mk (below_step bQ hb)
              clear HO_0
              clear HO_4
              clear HO184
              clear HO194
              clear HB
              have HO_0 := n0_
              have HO_4 := n1_
              have HO184 := n2_
              have HO194 := n3_
              have HO189 := n4_
              have HB := n5_
              clear n0_ n1_ n2_ n3_ n4_ n5_
              clear hb ho24
              refine hK.out _ _ trivial (fun hHeld => ?_)
              clear hK K
              refine norm_ (a' := ?_) ?_ ?_
              rotate_left
              ·show Act.put _ (some 23) _ = _
               simp only [Act.put, List.setIfInBounds_toArray, List.set_cons_zero, List.set_cons_succ, i64_w, i32_w]
               rfl
              refine one_ (i := 2) (N := some 22) #[true, true, true, true, true, true, true, true, false, false, false, false, false] rfl rfl (one_of HT_.out (by kernel_rfl)) (by decide) (fun K hK => ?_)
              refine goes_ Tryz.func71 (by kernel_rfl) rfl #[.slice Ao18 x0_1.length co18] (by rfl) rfl rfl aQ ?_
              with_reducible refine (berylref20_long.calls k1 _ _ x0_1 t186 _ ?side1 ?side2 A10.out).mono ?_
              (case side1 => exact cQ (Kd.V_reads' HO_0.out).2.2)
              (case side2 => exact (Kd.V_reads' HO_0.out).2.1)
              rintro e w' ⟨rfl, ⟨nd, rfl⟩⟩
              refine ⟨_, rfl, ?_⟩
              refine hK.out _ _ trivial (fun hHeld => ?_)
              clear hK K
              refine norm_ (a' := ?_) ?_ ?_
              rotate_left
              ·show Act.put _ (some 22) _ = _
               simp only [Act.put, List.setIfInBounds_toArray, List.set_cons_zero, List.set_cons_succ, i64_w, i32_w]
               rfl
              exact norm_ (by simp only [putAll, Act.put, List.setIfInBounds_toArray, List.set_cons_zero, List.set_cons_succ]) (hCont (v188) _ ⟨(by (with_reducible repeat (first | apply Kd.V_alloc | apply Kd.V_drewN | apply Kd.V_drew)); exact Kd.V_mono HO184.out (fun _ hk => ⟨hk.1.1, ⟨hk.2, hk.1.2⟩⟩)), (by (with_reducible repeat (first | apply Kd.R_alloc | apply Kd.R_drewN | apply Kd.R_drew)); exact Kd.R_mono HO189.out (fun _ hk => hk.1)), (by (with_reducible repeat (first | apply Kd.V_alloc | apply Kd.V_drewN | apply Kd.V_drew)); exact Kd.V_mono HO194.out (fun _ hk => ⟨hk.1.1, ⟨hk.2, hk.1.2⟩⟩)), (by (with_reducible repeat (first | apply Kd.V_alloc | apply Kd.V_drewN | apply Kd.V_drew)); exact Kd.V_mono HO_0.out (fun _ hk => ⟨hk.1.1, ⟨hk.2, hk.1.2⟩⟩)), (rQ HO_4.out), bQ⟩)
            rintro v188 w25 ⟨h0_, h1_, h2_, h3_, h4_, h5_⟩
            have n0_ : Aside0 (Kd.V (Kd.int .u8) 5 w25 w.heap.size (fun k_ => (P0_ k_ ∨ w.heap.size ≤ k_) ∧ some k_ ≠ (v188 : Value).ownBlock ∧ some k_ ≠ (.slice Ao20 x4_1.length co20 : Value).ownBlock) (.slice A19 y180.length c19) y180) := ⟨h0_⟩
            have n1_ : Aside0 (Kd.R (Kd.int .u8) 5 w25 w.heap.size (fun k_ => (w.heap.size ≤ k_)) v188 y187) := ⟨h1_⟩
            have n2_ : Aside0 (Kd.V (Kd.int .u8) 5 w25 w.heap.size (fun k_ => (P0_ k_ ∨ w.heap.size ≤ k_) ∧ some k_ ≠ (v188 : Value).ownBlock ∧ some k_ ≠ (.slice Ao20 x4_1.length co20 : Value).ownBlock) (.slice A22 y190.length c22) y190) := ⟨h2_⟩
            have n3_ : Aside0 (Kd.V (Kd.int .u8) 5 w25 w.heap.size (fun k_ => (P0_ k_ ∨ w.heap.size ≤ k_) ∧ some k_ ≠ (v188 : Value).ownBlock ∧ some k_ ≠ (.slice Ao20 x4_1.length co20 : Value).ownBlock) (.slice Ao18 x0_1.length co18) x0_1) := ⟨h3_⟩
            have n4_ : Aside0 (Kd.S k40 40 w25 w.heap.size (fun k_ => (w.heap.size ≤ k_) ∧ some k_ ≠ (v188 : Value).ownBlock) (.slice Ao20 x4_1.length co20) x4_1) := ⟨h4_⟩
            have n5_ : Aside0 (Below w.heap.size w w25) := ⟨h5_⟩
            clear HO_0
            clear HO_4
            clear HO184
            clear HB
            clear h0_ h1_ h2_ h3_ h4_ h5_
            have HO184 := n0_
            have HO189 := n1_
            have HO194 := n2_
            have HO_0 := n3_
            have HO_4 := n4_
            have HB := n5_
            clear n0_ n1_ n2_ n3_ n4_ n5_
            have hHeld := trivial
            refine norm_ (a' := ?_) ?_ ?_
            rotate_left
            ·simp only [putAll, Act.put, List.setIfInBounds_toArray, List.set_cons_zero, List.set_cons_succ]
             rfl
            refine one_ (i := 8) (N := some 28) #[true, true, true, true, true, true, true, true, true, false, false, false, false] rfl rfl (one_of HT_.out (by kernel_rfl)) (by decide) (fun K hK => ?_)
            refine Kd.R_append_rows_step (Kd.int .u8) (w0 := w) w.heap.size (by rfl) (.tmp 23) (.tmp 27) 22 5 (.int .u8 0) 1 rfl Tryz.underlying22 info5 rfl (by decide) (by omega) v188 y187 y190 _ _ _ (fun k_ => (w.heap.size ≤ k_)) (fun _ => False) rfl rfl ?aO ?aR (fun _ _ h => h) (fun _ h => h.elim) ?aF ?aB ?aS ?aL ?_
            (case aR => exact cQ (Kd.V_reads' HO194.out).2.2)
            (case aB => exact bQ)
            (case aF => exact (fun k_ hk => (Nat.le_trans (below_size bQ) hk)))
            (case aO => exact (rQ HO189.out))
            (case aS => exact (below_size bQ))
            (case aL => have := LMc13.out; omega)
            intro v196 w26 ho hb hg hat
            rw [← Ny195.out] at ho
            have n0_ := Aside0.mk (Kd.V_afterv (ok := (fun k_ => (P0_ k_ ∨ w.heap.size ≤ k_) ∧ some k_ ≠ (.slice Ao20 x4_1.length co20 : Value).ownBlock)) (by (with_reducible repeat (first | apply Kd.V_alloc | apply Kd.V_drewN | apply Kd.V_drew)); exact Kd.V_mono HO_0.out (fun _ hk => ⟨⟨hk.1, hk.2.2⟩, hk.2.1⟩)) hg hat)
            have n1_ := Aside0.mk (Kd.S_after (ok := (fun k_ => (w.heap.size ≤ k_))) (rQ HO_4.out) hg hat)
            have n2_ := Aside0.mk (Kd.V_afterv (ok := (fun k_ => (P0_ k_ ∨ w.heap.size ≤ k_) ∧ some k_ ≠ (.slice Ao20 x4_1.length co20 : Value).ownBlock)) (by (with_reducible repeat (first | apply Kd.V_alloc | apply Kd.V_drewN | apply Kd.V_drew)); exact Kd.V_mono HO184.out (fun _ hk => ⟨⟨hk.1, hk.2.2⟩, hk.2.1⟩)) hg hat)
            have n3_ := Aside0.mk (Kd.V_afterv (ok := (fun k_ => (P0_ k_ ∨ w.heap.size ≤ k_) ∧ some k_ ≠ (.slice Ao20 x4_1.length co20 : Value).ownBlock)) (by (with_reducible repeat (first | apply Kd.V_alloc | apply Kd.V_drewN | apply Kd.V_drew)); exact Kd.V_mono HO194.out (fun _ hk => ⟨⟨hk.1, hk.2.2⟩, hk.2.1⟩)) hg hat)
            have n4_ := Aside0.mk (hb)
            have n5_ := Aside0.mk (ho)
            clear HO_0
            clear HO_4
            clear HO184
            clear HO194
            clear HB
            clear HO189
            have HO_0 := n0_
            have HO_4 := n1_
            have HO184 := n2_
            have HO194 := n3_
            have HB := n4_
            have HO197 := n5_
            clear n0_ n1_ n2_ n3_ n4_ n5_
            clear ho hb hg hat
            obtain ⟨Ao27, co27, eo27⟩ := Kd.R_slice HO197.out
            (first | subst eo27 | (injection eo27 with f1_ f2_ f3_; have f4_ := f1_.symm; have f5_ := f3_.symm; clear f1_ f2_ f3_; subst f4_; subst f5_))
            refine hK.out _ _ trivial (fun hHeld => ?_)
            clear hK K
            refine norm_ (a' := ?_) ?_ ?_
            rotate_left
            ·show Act.put _ (some 28) _ = _
             simp only [Act.put, List.setIfInBounds_toArray, List.set_cons_zero, List.set_cons_succ, i64_w, i32_w]
             rfl
            refine pure_ (i := 9) (N := some 29) (v := ?_) (a' := ?_) #[true, true, true, true, true, true, true, true, true, true, false, false, false] rfl rfl (any_of HT_.out (by kernel_rfl)) (fun _ _ _ h => h) (Or.inl ⟨by rfl, ?_⟩) ?_ ?_
            rotate_left
            ·intro w'
             go_simp
             with_reducible rfl
            rotate_left
            ·simp only [Act.put, List.setIfInBounds_toArray, List.set_cons_zero, List.set_cons_succ, i64_w, i32_w]
             rfl
            refine one_ (i := 10) (N := some 30) #[true, true, true, true, true, true, true, true, true, true, true, false, false] rfl rfl (one_of HT_.out (by kernel_rfl)) (by decide) (fun K hK => ?_)
            refine value_ (w1 := ?_) (v := ?_) (by rfl) rfl ?_ ?_
            rotate_left 2
            ·go_simp
             constructor
             ·rfl
             ·rfl
            refine hK.out _ _ trivial (fun hHeld => ?_)
            clear hK K
            refine norm_ (a' := ?_) ?_ ?_
            rotate_left
            ·show Act.put _ (some 30) _ = _
             simp only [Act.put, List.setIfInBounds_toArray, List.set_cons_zero, List.set_cons_succ, i64_w, i32_w]
             rfl
            refine one_ (i := 11) (N := some 31) #[true, true, true, true, true, true, true, true, true, true, true, true, false] rfl rfl (one_of HT_.out (by kernel_rfl)) (by decide) (fun K hK => ?_)
            refine Kd.S_append_step k40 (w0 := w) w.heap.size (by rfl) (.tmp 20) (.tmp 30) 23 40 (.agg #[(.int .i64 0), (.slice none 0 0)]) 32 rfl Tryz.underlying23 info40 rfl (by decide) (by omega) (.slice Ao20 x4_1.length co20) x4_1 (⟨t186, y195⟩ : S40) [.int .i64 t186, .slice Ao27 y195.length co27] (fun k_ => (w.heap.size ≤ k_)) (fun k_ => some k_ = (.slice Ao27 y195.length co27 : Value).ownBlock) rfl rfl ?aP (fun k_ hk_ => ((Kd.R_mono (ok' := fun k_ => ((fun k_ => (w.heap.size ≤ k_))) k_ ∧ some k_ ≠ (.slice Ao20 x4_1.length co20 : Value).ownBlock) (Kd.R_apart' (HO197.out) (Kd.S_typed HO_4.out) (by decide)) (fun k_ hk => ⟨hk.1, hk.2⟩))).1 k_ hk_.symm) ?aF ?aO ?aB ?aS ?aL ?_
            (case aP => exact k40_mkM _ _ _ (⟨t186, y195⟩ : S40) (Kd.R_mono (Kd.R_tight rfl (Kd.R_mono (ok' := fun k_ => ((fun k_ => (w.heap.size ≤ k_))) k_ ∧ some k_ ≠ (.slice Ao20 x4_1.length co20 : Value).ownBlock) (Kd.R_apart' (HO197.out) (Kd.S_typed HO_4.out) (by decide)) (fun k_ hk => ⟨hk.1, hk.2⟩))) (fun _ h_ => h_)))
            (case aB => exact bQ)
            (case aF => exact (fun k_ hk => (Nat.le_trans (below_size bQ) hk)))
            (case aO => exact (by (with_reducible repeat (first | apply Kd.S_alloc | apply Kd.S_drewN | apply Kd.S_drew)); exact Kd.S_mono HO_4.out (fun k_ hk => ⟨hk.1, fun e_ => hk.2 e_⟩)))
            (case aS => exact (below_size bQ))
            (case aL => have := LMc14.out; omega)
            intro v199 w28 ho hb hg hat
            rw [← Ny198.out] at ho
            have n0_ := Aside0.mk (Kd.V_afterv (ok := (fun k_ => (P0_ k_ ∨ w.heap.size ≤ k_) ∧ some k_ ≠ (.slice Ao27 y195.length co27 : Value).ownBlock)) (by (with_reducible repeat (first | apply Kd.V_alloc | apply Kd.V_drewN | apply Kd.V_drew)); exact Kd.V_mono HO_0.out (fun _ hk => ⟨⟨hk.1.1, hk.2⟩, hk.1.2⟩)) hg hat)
            have n1_ := Aside0.mk (Kd.V_afterv (ok := (fun k_ => (P0_ k_ ∨ w.heap.size ≤ k_) ∧ some k_ ≠ (.slice Ao27 y195.length co27 : Value).ownBlock)) (by (with_reducible repeat (first | apply Kd.V_alloc | apply Kd.V_drewN | apply Kd.V_drew)); exact Kd.V_mono HO184.out (fun _ hk => ⟨⟨hk.1.1, hk.2⟩, hk.1.2⟩)) hg hat)
            have n2_ := Aside0.mk (Kd.V_afterv (ok := (fun k_ => (P0_ k_ ∨ w.heap.size ≤ k_) ∧ some k_ ≠ (.slice Ao27 y195.length co27 : Value).ownBlock)) (by (with_reducible repeat (first | apply Kd.V_alloc | apply Kd.V_drewN | apply Kd.V_drew)); exact Kd.V_mono HO194.out (fun _ hk => ⟨⟨hk.1.1, hk.2⟩, hk.1.2⟩)) hg hat)
            have n3_ := Aside0.mk (hb)
            have n4_ := Aside0.mk (ho)
            clear HO_0
            clear HO184
            clear HO194
            clear HB
            clear HO_4
            clear HO197
            have HO_0 := n0_
            have HO184 := n1_
            have HO194 := n2_
            have HB := n3_
            have HO200 := n4_
            clear n0_ n1_ n2_ n3_ n4_
            clear ho hb hg hat
            refine hK.out _ _ trivial (fun hHeld => ?_)
            clear hK K
            refine norm_ (a' := ?_) ?_ ?_
            rotate_left
            ·show Act.put _ (some 31) _ = _
             simp only [Act.put, List.setIfInBounds_toArray, List.set_cons_zero, List.set_cons_succ, i64_w, i32_w]
             rfl
            refine pure_ (i := 12) (N := some 4) (v := ?_) (a' := ?_) #[true, true, true, true, true, true, true, true, true, true, true, true, true] rfl rfl (any_of HT_.out (by kernel_rfl)) (fun _ _ _ h => h) (Or.inl ⟨by rfl, ?_⟩) ?_ ?_
            rotate_left
            ·intro w'
             go_simp
             with_reducible rfl
            rotate_left
            ·simp only [Act.put, List.setIfInBounds_toArray, List.set_cons_zero, List.set_cons_succ, i64_w, i32_w]
             rfl
            refine done_ (done_of HT_.out (by kernel_rfl)) ?_
            have q29 : ((ji15) : Int) ≤ ((x0_1.length : Int) : Int) := of_decide_eq_true hQ
            obtain ⟨i029, hi029, _, hsz29, _⟩ := info_parts info5
            have hroom29 : x0_1.length ≤ co18 := (Kd.V_reads' HO_0.out).2.1
            have hC29 : Kd.F (Kd.int .u8) _ _ Ao18 x0_1.length x0_1 := (Kd.V_at (base := w.heap.size) HO_0.out).2.2
            have q029 : (0 : Int) ≤ ((ji15) : Int) := of_decide_eq_true hQ
            have hcut29 := cut_from (P := Tryz.prog) 22 5 .i64 Tryz.underlying22 hi029 1 hsz29 Ao18 x0_1.length co18 (ji15) q029 q29
            have hr29 := Kd.F_cut (m := ((ji15) : Int).toNat) (c := co18) hC29 (by omega) hroom29
            obtain ⟨A29, hA29⟩ : ∃ A1, A1 = (if co18 = ((ji15) : Int).toNat then Ao18 else (Ao18 : Option Addr).map (·.add (((ji15) : Int).toNat * 1))) := ⟨_, rfl⟩
            obtain ⟨c29, hc29⟩ : ∃ c1, c1 = co18 - ((ji15) : Int).toNat := ⟨_, rfl⟩
            have hy29 : y201.length = x0_1.length - ((ji15) : Int).toNat := (by rw [Ny201.out, List.length_drop] <;> omega)
            rw [show (x0_1).drop ((ji15) : Int).toNat = y201 from Ny201.out.symm] at hr29
            replace hr29 : Kd.F (Kd.int .u8) _ _ A29 y201.length y201 := (by rw [hA29]; exact hr29)
            rw [← hy29, ← hA29, ← hc29] at hcut29
            have HO205 := Aside0.mk (show Kd.V (Kd.int .u8) 5 _ w.heap.size _ (.slice A29 y201.length c29) y201 from Kd.V_mk (by rw [hy29, hc29]; exact Nat.sub_le_sub_right hroom29 _) hr29)
            have HC205 := Aside0.mk (show y201.length ≤ c29 from by rw [hy29, hc29]; exact Nat.sub_le_sub_right hroom29 _)
            clear hr29 hC29 hroom29 hi029 hsz29 hc29
            have KY29 := Aside0.mk hy29
            have KA29 := Aside0.mk hA29
            clear hy29 hA29
            replace q29 := eq_true q29
            try go_wp2
            go_roundg k1
            case measure => have := HK1.out; omega
            case rel => exact ⟨(y201), (y198), H', ⟨by have := HK1.out; omega⟩, ⟨by (with_reducible repeat (first | apply Kd.V_alloc | apply Kd.V_drewN | apply Kd.V_drew)); exact Kd.V_mono HO205.out (fun _ hk => ⟨hk.1.1, hk.2⟩)⟩, ⟨by (with_reducible repeat (first | apply Kd.S_alloc | apply Kd.S_drewN | apply Kd.S_drew)); exact HO200.out⟩, ⟨bQ⟩⟩
           ·rw [if_neg c16] at H
            exact absurd H (by simp)
          ·rw [if_neg c14] at H
           exact absurd H (by simp)
         ·rw [if_neg c13] at H
          exact absurd H (by simp)
        ·rw [if_neg c12] at H
         exact absurd H (by simp)
       ·rw [if_neg c11] at H
        exact absurd H (by simp)
     ·rw [if_neg c5] at H
      exact absurd H (by simp)
   ·rw [if_neg c2] at H
    have c2b0 : decide (0 < (x0_1.length : Int)) = false := decide_eq_false c2
    have c2b1 : decide (0 < x0_1.length) = false := decide_eq_false (by omega)
    clear c2
    replace H := Option.bind_eq_some_iff.mp H
    obtain ⟨t179, A300, H⟩ := H
    have A30 := Aside0.mk A300
    clear A300
    simp only [Option.some.injEq, Prod.mk.injEq] at H
    obtain ⟨rfl, rfl⟩ := H
    obtain ⟨Ao31, co31, eo31⟩ := Kd.V_slice HO_0.out
    subst eo31
    obtain ⟨Ao32, co32, eo32⟩ := Kd.S_slice HO_4.out
    subst eo32
    go_wp2_with (first | ((with_reducible refine gate_callee (f := 27) rfl ?_); refine goesL_ (some 38) rfl rfl Tryz.func27 (by kernel_rfl) rfl #[.slice Ao32 x4_1.length co32] rfl aQ ?_; (with_reducible refine (berylref20_right.calls k1 _ _ x4_1 t179 _ ?side1 ?side2 A30.out).mono ?_); (case side1 => exact cQ (Kd.S_reads' HO_4.out).2.2); (case side2 => exact (Kd.S_reads' HO_4.out).2.1); rintro e w' ⟨rfl, ⟨nd, rfl⟩⟩; refine ⟨_, rfl, ?_⟩))
    go_ret2
    exact ⟨_, eQ, by (with_reducible repeat (first | apply Kd.S_alloc | apply Kd.S_drewN | apply Kd.S_drew)); exact HO_4.out, bQ⟩
end Go.Proofs.YtcdpkdehogcjnaaGreat.Print
