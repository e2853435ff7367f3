/- The examples of the document, small maps, and what a move is: contracts, whatever the input. -/
import Derived.Test.YtjnceoohlcchnaaRH
import Derived.Test.YtjnceoohlcchnaaRG
import Derived.Test.YtjnceoohlcchnaaRE
import Derived.Test.YtjnceoohlcchnaaRD
import Derived.Test.YtjnceoohlcchnaaR3
import Derived.Test.YtjnceoohlcchnaaRB
import Derived.Test.YtjnceoohlcchnaaRF
set_option linter.unusedVariables false
set_option linter.unusedSimpArgs false
/-! The map of the document's examples. -/
namespace Go.Proofs.Ytjnceoohlcchnaa.Print
open Go Go.RowKit Go.Deep Go.Proofs.YtjnceoohlcchnaaW.PrintWords Go.Proofs.YtjnceoohlcchnaaW.PrintLast Go.Proofs.YtjnceoohlcchnaaW.PrintMore

def mapA : List S36 := [⟨true, [⟨7, 0, 0⟩], []⟩, ⟨true, [], []⟩, ⟨true, [], []⟩, ⟨true, [], []⟩]
def mapB : List S36 := [⟨true, [], [⟨7, 1, 1⟩]⟩, ⟨true, [⟨7, 1, 1⟩], []⟩, ⟨true, [], []⟩, ⟨true, [], []⟩]
def mapS : List S36 := [⟨true, [], [⟨7, 1, 1⟩]⟩, ⟨true, [], [⟨7, 2, 2⟩]⟩, ⟨true, [⟨7, 2, 2⟩], []⟩, ⟨true, [], []⟩]
theorem s_new : newF 4 = (newL 4, 0) := by kernel_rfl
theorem s_make : makeF (newL 4) 7 0 = (mapA, 0) := by kernel_rfl
theorem s_move1 : moveF mapA 7 1 = (mapB, 0) := by kernel_rfl
theorem s_move2 : moveF mapB 7 2 = (mapS, 0) := by kernel_rfl
theorem s_where : whereF mapS 7 = (⟨7, 2, 2⟩, 0) := by kernel_rfl
theorem s_follow : followF mapS 0 7 = ([0, 1, 2], true, 0) := by kernel_rfl
theorem s_search0 : (searchF mapS 0 7).2 = (⟨7, 2, 2⟩, 3, 0) := by kernel_rfl
theorem s_searchL : (searchF mapS 0 7).1.length = 4 := by kernel_rfl
theorem s_search3 : (searchF mapS 3 7).2 = (⟨7, 2, 2⟩, 4, 0) := by kernel_rfl
theorem s_next : nextF mapS 0 7 1 = ((1, 1), 0) := by kernel_rfl
theorem s_route : routeF mapS 0 7 1 = ([0, 1, 2], true, 0) := by kernel_rfl
theorem s_tell : tellG mapS 3 ⟨7, 1, 2⟩ = ([], 1) := by kernel_rfl
theorem s_move3 : moveF mapS 7 2 = ([], 1) := by kernel_rfl
theorem s_move4 : moveF mapS 8 1 = ([], 3) := by kernel_rfl
theorem short_ok {l : List S36} (h : checkF l = true) : Short l := vat_short (check_vat h) (by have := ((check_iff l).1 h).most; omega)
theorem s_short0 : Short (newL 4) := short_ok (by kernel_rfl)
theorem s_shortA : Short mapA := short_ok (by kernel_rfl)
theorem s_shortB : Short mapB := short_ok (by kernel_rfl)
theorem s_shortS : Short mapS := short_ok (by kernel_rfl)
set_option maxRecDepth 100000 in
theorem sample_any (w : World) : Calls Try.prog 53 #[] w fun e w' => ∃ A c, e = .returned (.tuple #[.slice A mapS.length c, .bool true]) ∧ mapS.length ≤ c ∧ Kd.C k36 w' A mapS.length mapS ∧ Below w.heap.size w w' := by
  go_enter Try.func53, Try.ntmps53
  go_wp2_with fail
  refine (New_any 4 w).mono ?_
  rintro e w1 ⟨A1, c1, rfl, hc1, hC1, hB⟩
  rw [s_new] at hc1 hC1 ⊢
  have HB1 := Aside0.mk hB
  have HC1 := Aside0.mk hC1
  clear hB hC1
  go_wp2_with fail
  refine (Make_any A1 _ c1 (newL 4) 7 0 w1 rfl HC1.out hc1 s_short0).mono ?_
  rintro e w2 ⟨A2, c2, rfl, hc2, hC2, hB⟩
  rw [s_make] at hc2 hC2 ⊢
  have HB2 := Aside0.mk (below_step HB1.out hB)
  have HC2 := Aside0.mk hC2
  clear hB hC2
  go_wp2_with fail
  refine (Move_any A2 _ c2 mapA 7 1 w2 rfl HC2.out hc2 s_shortA).mono ?_
  rintro e w3 ⟨A3, c3, rfl, hc3, hC3, hB⟩
  rw [s_move1] at hc3 hC3 ⊢
  have HB3 := Aside0.mk (below_step HB2.out hB)
  have HC3 := Aside0.mk hC3
  clear hB hC3
  go_wp2_with fail
  refine (Move_any A3 _ c3 mapB 7 2 w3 rfl HC3.out hc3 s_shortB).mono ?_
  rintro e w4 ⟨A4, c4, rfl, hc4, hC4, hB⟩
  rw [s_move2] at hc4 hC4 ⊢
  have HB4 := Aside0.mk (below_step HB3.out hB)
  have HC4 := Aside0.mk hC4
  clear hB hC4
  go_wp2_with fail
  go_returns
  exact ⟨A4, c4, rfl, hc4, HC4.out, HB4.out⟩
end Go.Proofs.Ytjnceoohlcchnaa.Print

/-! The document's examples hold. -/
namespace Go.Proofs.Ytjnceoohlcchnaa.Print
open Go Go.RowKit Go.Deep Go.Proofs.YtjnceoohlcchnaaW.PrintWords Go.Proofs.YtjnceoohlcchnaaW.PrintLast Go.Proofs.YtjnceoohlcchnaaW.PrintMore

/-- a row of three numbers -/
theorem three_ints {w : World} {g : Nat} {a b c : Int} (h : w.heap[g]? = some (.cells #[.int .i64 a, .int .i64 b, .int .i64 c] 3 (0, 0))) : Kd.C (Kd.int .i64) w (some ⟨g, 0, none⟩) 3 [a, b, c] := by
  obtain ⟨k0, k1, k2, _, _, _⟩ := blk3 h
  refine ⟨rfl, by omega, fun _ => ⟨_, rfl, fun j x hj => ?_⟩⟩
  match j, hj with
  | 0, hj => cases hj; exact ⟨[.int .i64 a], rfl, rfl, fun k u hk => by match k, hk with | 0, hk => cases hk; simpa [Addr.add] using k0⟩
  | 1, hj => cases hj; exact ⟨[.int .i64 b], rfl, rfl, fun k u hk => by match k, hk with | 0, hk => cases hk; show w.cell? ((⟨g, 0, none⟩ : Addr).add 1) = _; rw [Addr.add_lit]; exact k1⟩
  | 2, hj => cases hj; exact ⟨[.int .i64 c], rfl, rfl, fun k u hk => by match k, hk with | 0, hk => cases hk; show w.cell? ((⟨g, 0, none⟩ : Addr).add 2) = _; rw [Addr.add_lit]; exact k2⟩
set_option maxRecDepth 100000 in
set_option maxHeartbeats 16000000 in
theorem awake_any (w : World) : Calls Try.prog 12 #[] w fun e w' => e = .returned (.bool true) ∧ Below w.heap.size w w' := by
  have heq : ∀ W, (Op.equal 31 (.agg #[.int .i64 7, .int .i64 2, .int .i64 2]) (.agg #[.int .i64 7, .int .i64 2, .int .i64 2])).run Try.prog W = .ok true W := fun W => eq_hint ⟨7, 2, 2⟩ ⟨7, 2, 2⟩ W
  have hu := Try.underlying31
  go_enter Try.func12, Try.ntmps12
  go_wp2_with fail
  refine (sample_any w).mono ?_
  rintro e w1 ⟨A, c, rfl, hc, hC, hB⟩
  have HB1 := Aside0.mk hB
  have HC1 := Aside0.mk hC
  clear hB hC
  go_wp2_with fail
  refine (Where_any A _ c mapS 7 w1 rfl HC1.out hc s_shortS).mono ?_
  rintro e w2 ⟨rfl, hB⟩
  rw [s_where]
  simp only [hintV]
  obtain ⟨w2', hw2⟩ : ∃ W, W = w2.alloc (Obj.cells #[Value.int IntKind.i64 7, Value.int IntKind.i64 2, Value.int IntKind.i64 2] 31) := ⟨_, rfl⟩
  obtain ⟨g3, hg3⟩ : ∃ g, g = w2.heap.size := ⟨_, rfl⟩
  have hB12 : Below w1.heap.size w1 w2' := by rw [hw2]; exact below_alloc hB _
  have HB2 := Aside0.mk (below_step HB1.out hB12)
  have HC2 := Aside0.mk (Kd.C_below HC1.out hB12)
  have HX2 : Aside0 (w2'.heap[g3]? = some (.cells #[.int .i64 7, .int .i64 2, .int .i64 2] 31 (0, 0))) := ⟨by rw [hw2, hg3]; exact heap_alloc_new _ _⟩
  clear hB hB12
  go_upto_region 5 with fail
  rw [← hw2, ← hg3]
  clear hw2 hg3
  go_wp2_with fail
  refine (Follow_any A _ c mapS 0 7 w2' rfl HC2.out hc s_shortS).mono ?_
  rintro e w3 ⟨v3, rfl, hR, hB⟩
  rw [s_follow] at hR ⊢
  have HB3 := Aside0.mk (below_step HB2.out hB)
  have HC3 := Aside0.mk (Kd.C_below HC2.out hB)
  have HX3 := Aside0.mk (blk_below HX2.out hB)
  obtain ⟨U3, cu3, rfl⟩ := Kd.R_slice hR
  have HR3 := Aside0.mk hR
  clear hB hR
  go_wp2_with fail
  refine (Search_any A _ c mapS 0 7 w3 rfl HC3.out hc s_shortS).mono ?_
  rintro e w4 ⟨A4, c4, rfl, _, _, hB⟩
  rw [s_search0, s_searchL]
  simp only [hintV]
  obtain ⟨w4', hw4⟩ : ∃ W, W = w4.alloc (Obj.cells #[Value.int IntKind.i64 7, Value.int IntKind.i64 2, Value.int IntKind.i64 2] 31) := ⟨_, rfl⟩
  obtain ⟨g9, hg9⟩ : ∃ g, g = w4.heap.size := ⟨_, rfl⟩
  have hB34 : Below w3.heap.size w3 w4' := by rw [hw4]; exact below_alloc hB _
  have HB4 := Aside0.mk (below_step HB3.out hB34)
  have HC4 := Aside0.mk (Kd.C_below HC3.out hB34)
  have HX4 := Aside0.mk (blk_below HX3.out hB34)
  have HR4 := Aside0.mk (Kd.R_below HR3.out hB34)
  have HY4 : Aside0 (w4'.heap[g9]? = some (.cells #[.int .i64 7, .int .i64 2, .int .i64 2] 31 (0, 0))) := ⟨by rw [hw4, hg9]; exact heap_alloc_new _ _⟩
  clear hB hB34
  go_upto_region 7 with fail
  rw [← hw4, ← hg9]
  clear hw4 hg9
  go_wp2_with fail
  refine (Search_any A _ c mapS 3 7 w4' rfl HC4.out hc s_shortS).mono ?_
  rintro e w5 ⟨A5, c5, rfl, _, _, hB⟩
  rw [s_search3]
  simp only [hintV]
  obtain ⟨n5, hn5⟩ : ∃ n, n = (searchF mapS 3 7).1.length := ⟨_, rfl⟩
  rw [← hn5]
  obtain ⟨w5', hw5⟩ : ∃ W, W = w5.alloc (Obj.cells #[Value.int IntKind.i64 7, Value.int IntKind.i64 2, Value.int IntKind.i64 2] 31) := ⟨_, rfl⟩
  have hB45 : Below w4'.heap.size w4' w5' := by rw [hw5]; exact below_alloc hB _
  have HB5 := Aside0.mk (below_step HB4.out hB45)
  have HC5 := Aside0.mk (Kd.C_below HC4.out hB45)
  have HX5 := Aside0.mk (blk_below HX4.out hB45)
  have HY5 := Aside0.mk (blk_below HY4.out hB45)
  have HR5 := Aside0.mk (Kd.R_below HR4.out hB45)
  clear hB hB45 hn5
  go_upto_region 8 with fail
  rw [← hw5]
  clear hw5
  go_wp2_with fail
  refine (Next_any A _ c mapS 0 7 1 w5' rfl HC5.out hc s_shortS).mono ?_
  rintro e w6 ⟨rfl, hB⟩
  rw [s_next]
  have HB6 := Aside0.mk (below_step HB5.out hB)
  have HC6 := Aside0.mk (Kd.C_below HC5.out hB)
  have HX6 := Aside0.mk (blk_below HX5.out hB)
  have HY6 := Aside0.mk (blk_below HY5.out hB)
  have HR6 := Aside0.mk (Kd.R_below HR5.out hB)
  clear hB
  go_wp2_with fail
  refine (Route_any A _ c mapS 0 7 1 w6 rfl HC6.out hc s_shortS).mono ?_
  rintro e w7 ⟨v7, rfl, hR, hB⟩
  rw [s_route] at hR ⊢
  obtain ⟨U7, cu7, rfl⟩ := Kd.R_slice hR
  have HB7 := Aside0.mk (below_step HB6.out hB)
  have HC7 := Aside0.mk (Kd.C_below HC6.out hB)
  have HX7 := Aside0.mk (blk_below HX6.out hB)
  have HY7 := Aside0.mk (blk_below HY6.out hB)
  have HR7 := Aside0.mk (Kd.R_below HR6.out hB)
  have HQ7 := Aside0.mk hR
  clear hB hR
  go_upto_region 13 with fail
  obtain ⟨w8, hw8⟩ : ∃ W, W = w7.alloc (Obj.cells #[Value.int IntKind.i64 7, Value.int IntKind.i64 2, Value.int IntKind.i64 2] 31) := ⟨_, rfl⟩
  obtain ⟨g22, hg22⟩ : ∃ g, g = w7.heap.size := ⟨_, rfl⟩
  rw [← hw8, ← hg22]
  have hB78 : Below w7.heap.size w7 w8 := by rw [hw8]; exact below_alloc (Below.refl _ _) _
  have HB8 := Aside0.mk (below_step HB7.out hB78)
  have HC8 := Aside0.mk (Kd.C_below HC7.out hB78)
  have HX8 := Aside0.mk (blk_below HX7.out hB78)
  have HY8 := Aside0.mk (blk_below HY7.out hB78)
  have HR8 := Aside0.mk (Kd.R_below HR7.out hB78)
  have HQ8 := Aside0.mk (Kd.R_below HQ7.out hB78)
  have HZ8 : Aside0 (w8.heap[g22]? = some (.cells #[.int .i64 7, .int .i64 2, .int .i64 2] 31 (0, 0))) := ⟨by rw [hw8, hg22]; exact heap_alloc_new _ _⟩
  clear hw8 hg22 hB78 HB7 HC7 HX7 HY7 HR7 HQ7 HB6 HC6 HX6 HY6 HR6 HB5 HC5 HX5 HY5 HR5
  obtain ⟨x0, x1, x2, _, _, _⟩ := blk3 HX8.out
  obtain ⟨y0, y1, y2, _, _, _⟩ := blk3 HY8.out
  obtain ⟨z0, z1, z2, _, _, _⟩ := blk3 HZ8.out
  go_wp2_with fail
  have hB89 := below_alloc (Below.refl w8.heap.size w8) (Obj.cells #[Value.int IntKind.i64 0, Value.int IntKind.i64 1, Value.int IntKind.i64 2] 3)
  have HS9 := Aside0.mk (berylref17_SameInts.calls 5 U3 cu3 [0, 1, 2] (some ⟨w8.heap.size, 0, none⟩) 3 [0, 1, 2] true (w8.alloc (Obj.cells #[Value.int IntKind.i64 0, Value.int IntKind.i64 1, Value.int IntKind.i64 2] 3)) (Kd.C_below (Kd.R_reads' HR8.out).2.2 hB89) (Kd.R_reads' HR8.out).2.1 (three_ints (heap_alloc_new _ _)) (by simp) (by kernel_rfl))
  clear hB89 x0 x1 x2 y0 y1 y2 z0 z1 z2
  refine HS9.out.mono ?_
  rintro e w9 ⟨rfl, ⟨nd, rfl⟩⟩
  obtain ⟨w9, hw9⟩ : ∃ W, W = (w8.alloc (Obj.cells #[Value.int IntKind.i64 0, Value.int IntKind.i64 1, Value.int IntKind.i64 2] 3)).drewN nd := ⟨_, rfl⟩
  rw [← hw9]
  have hB89 : Below w8.heap.size w8 w9 := by rw [hw9]; exact pw_below_drewN (below_alloc (Below.refl _ _) _) nd
  have HB9 := Aside0.mk (below_step HB8.out hB89)
  have HC9 := Aside0.mk (Kd.C_below HC8.out hB89)
  have HQ9 := Aside0.mk (Kd.R_below HQ8.out hB89)
  clear hw9 hB89 HS9 HX8 HY8 HZ8 HR8
  go_wp2_with fail
  have hB9 := below_alloc (Below.refl w9.heap.size w9) (Obj.cells #[Value.int IntKind.i64 0, Value.int IntKind.i64 1, Value.int IntKind.i64 2] 3)
  have HS9 := Aside0.mk (berylref17_SameInts.calls 5 U7 cu7 [0, 1, 2] (some ⟨w9.heap.size, 0, none⟩) 3 [0, 1, 2] true (w9.alloc (Obj.cells #[Value.int IntKind.i64 0, Value.int IntKind.i64 1, Value.int IntKind.i64 2] 3)) (Kd.C_below (Kd.R_reads' HQ9.out).2.2 hB9) (Kd.R_reads' HQ9.out).2.1 (three_ints (heap_alloc_new _ _)) (by simp) (by kernel_rfl))
  clear hB9
  refine HS9.out.mono ?_
  rintro e wx ⟨rfl, ⟨nd, rfl⟩⟩
  obtain ⟨wt, hwt⟩ : ∃ W, W = (w9.alloc (Obj.cells #[Value.int IntKind.i64 0, Value.int IntKind.i64 1, Value.int IntKind.i64 2] 3)).drewN nd := ⟨_, rfl⟩
  rw [← hwt]
  have hB9t : Below w9.heap.size w9 wt := by rw [hwt]; exact pw_below_drewN (below_alloc (Below.refl _ _) _) nd
  have HBt := Aside0.mk (below_step HB9.out hB9t)
  have HCt := Aside0.mk (Kd.C_below HC9.out hB9t)
  clear hwt hB9t HS9 HQ9 HB9 HC9
  go_wp2_with fail
  refine (Tell_any A _ c mapS 3 ⟨7, 1, 2⟩ wt rfl HCt.out hc s_shortS).mono ?_
  rintro e wu ⟨Au, cu, rfl, _, _, hB⟩
  rw [s_tell]
  have HBu := Aside0.mk (below_step HBt.out hB)
  have HCu := Aside0.mk (Kd.C_below HCt.out hB)
  clear hB
  go_wp2_with fail
  refine (Move_any A _ c mapS 7 2 wu rfl HCu.out hc s_shortS).mono ?_
  rintro e wv ⟨Av, cv, rfl, _, _, hB⟩
  rw [s_move3]
  have HBv := Aside0.mk (below_step HBu.out hB)
  have HCv := Aside0.mk (Kd.C_below HCu.out hB)
  clear hB
  go_wp2_with fail
  refine (Move_any A _ c mapS 8 1 wv rfl HCv.out hc s_shortS).mono ?_
  rintro e wy ⟨Ay, cy, rfl, _, _, hB⟩
  rw [s_move4]
  have HBy := Aside0.mk (below_step HBv.out hB)
  clear hB
  go_wp2_with fail
  go_returns
  exact ⟨rfl, HBy.out⟩
end Go.Proofs.Ytjnceoohlcchnaa.Print

/-! Whether a map is small. -/
namespace Go.Proofs.Ytjnceoohlcchnaa.Print
open Go Go.RowKit Go.Deep Go.Proofs.YtjnceoohlcchnaaW.PrintWords Go.Proofs.YtjnceoohlcchnaaW.PrintLast Go.Proofs.YtjnceoohlcchnaaW.PrintMore

def sumL : List S36 → Nat
  | [] => 0
  | x :: l => x.f1.length + x.f2.length + sumL l
def fewB (l : List S36) : Bool := decide (l.length ≤ 20) && decide (sumL l ≤ 400)
theorem sum_mem : ∀ {l : List S36} {x : S36}, x ∈ l → x.f1.length ≤ sumL l ∧ x.f2.length ≤ sumL l
  | [], x, h => by cases h
  | y :: l, x, h => by
    rw [sumL]
    rcases List.mem_cons.1 h with rfl | h
    · omega
    · have := sum_mem h; omega
theorem sum_take (l : List S36) (i : Nat) (x : S36) (h : l[i]? = some x) : ∀ (l : List S36) (i : Nat) (x : S36), l[i]? = some x → sumL (l.take (i + 1)) = sumL (l.take i) + (x.f1.length + x.f2.length)
  | [], i, x, h => by simp at h
  | y :: l, 0, x, h => by cases h; simp [sumL]
  | y :: l, i + 1, x, h => by
    have ih := sum_take l i x (by simpa using h) l i x (by simpa using h)
    rw [List.take_succ_cons, List.take_succ_cons, sumL, sumL, ih]
    omega
theorem sum_bound : ∀ {l : List S36} {B : Nat}, (∀ x ∈ l, x.f1.length ≤ B ∧ x.f2.length ≤ B) → sumL l ≤ l.length * (2 * B)
  | [], _, _ => Nat.zero_le _
  | y :: l, B, h => by
    have h1 := h y (List.mem_cons_self ..)
    have h2 := sum_bound (fun x hx => h x (List.mem_cons_of_mem _ hx))
    rw [sumL, List.length_cons, Nat.succ_mul]
    omega
theorem few_l0 (l : List S36) (hl : l.length ≤ 20) (hb : ∀ x ∈ l, x.f1.length ≤ 140737488355328 ∧ x.f2.length ≤ 140737488355328) : ∀ (m i k : Nat), i + m = l.length → m < k → beryllaw17_few.l0 k l (sumL (l.take i) : Int) (i : Int) = some (decide (sumL l ≤ 400)) := by
  intro m
  induction m with
  | zero =>
    intro i k hi hk
    obtain ⟨k, rfl⟩ : ∃ j, k = j + 1 := ⟨k - 1, by omega⟩
    rw [beryllaw17_few.l0, if_neg (by omega), List.take_of_length_le (by omega)]
    congr 1
    exact decide_eq_decide.2 (by omega)
  | succ m ih =>
    intro i k hi hk
    obtain ⟨k, rfl⟩ : ∃ j, k = j + 1 := ⟨k - 1, by omega⟩
    have hlt : i < l.length := by omega
    have hrd : rd_T36 l (i : Int) = l[i] := by
      unfold rd_T36
      simp [List.getD_eq_getElem?_getD, List.getElem?_eq_getElem hlt]
    have ih2 := ih (i + 1) k (by omega) (by omega)
    have hst := sum_take l i l[i] (List.getElem?_eq_getElem hlt) l i l[i] (List.getElem?_eq_getElem hlt)
    have hx := hb l[i] (List.getElem_mem hlt)
    have hs := sum_bound (l := l.take i) (B := 140737488355328) (fun x hx => hb x (List.mem_of_mem_take hx))
    rw [List.length_take] at hs
    have hs2 : sumL (l.take i) ≤ 20 * (2 * 140737488355328) := Nat.le_trans hs (Nat.mul_le_mul_right _ (by omega))
    rw [hst] at ih2
    rw [beryllaw17_few.l0, if_pos (by omega), if_pos (by omega), hrd, show wrap64 (((l[i].f1).length : Int) + ((l[i].f2).length : Int)) = (((l[i].f1).length + (l[i].f2).length : Nat) : Int) by unfold wrap64; omega,
      show wrap64 ((sumL (l.take i) : Int) + (((l[i].f1).length + (l[i].f2).length : Nat) : Int)) = ((sumL (l.take i) + (l[i].f1.length + l[i].f2.length) : Nat) : Int) by unfold wrap64; omega, show wrap64 ((i : Int) + 1) = ((i + 1 : Nat) : Int) by unfold wrap64; omega]
    exact ih2
theorem few_f (l : List S36) (hb : ∀ x ∈ l, x.f1.length ≤ 140737488355328 ∧ x.f2.length ≤ 140737488355328) : beryllaw17_few.f (l.length + 1) l = some (fewB l) := by
  unfold beryllaw17_few.f fewB
  by_cases h : l.length ≤ 20
  · rw [if_neg (by omega), decide_eq_true h, Bool.true_and]
    exact few_l0 l h hb l.length 0 _ (by omega) (by omega)
  · rw [if_pos (by omega), decide_eq_false h, Bool.false_and]
theorem few_short {l : List S36} (h : fewB l = true) : Short l := by
  unfold fewB at h
  rw [Bool.and_eq_true, decide_eq_true_iff, decide_eq_true_iff] at h
  exact ⟨by omega, fun x hx => by have := sum_mem hx; omega⟩
/-- what the rows say of a map that is handed in -/
def FitP (l : List S36) : Prop := ∀ x ∈ l, x.f1.length ≤ 140737488355328 ∧ x.f2.length ≤ 140737488355328
theorem few_any (A : Option Addr) (n c : Nat) (l : List S36) (w : World) (hn : n = l.length) (hr : Kd.C k36 w A l.length l) (hc : n ≤ c) (hb : FitP l) :
    Calls Try.prog 13 #[.slice A n c] w fun e w' => e = .returned (.bool (fewB l)) ∧ Below w.heap.size w w' := by
  subst hn
  refine (beryllaw17_few.calls (l.length + 1) A c l (fewB l) w hr hc (few_f l hb)).mono ?_
  rintro e w' ⟨rfl, ⟨nd, rfl⟩⟩
  exact ⟨rfl, pw_below_drewN (Below.refl _ _) nd⟩
end Go.Proofs.Ytjnceoohlcchnaa.Print

/-! what a move is, as the law says it -/
namespace Go.Proofs.Ytjnceoohlcchnaa.Print
open Go Go.RowKit Go.Deep Go.Proofs.YtjnceoohlcchnaaW.PrintWords Go.Proofs.YtjnceoohlcchnaaW.PrintLast Go.Proofs.YtjnceoohlcchnaaW.PrintMore
theorem given_of {l : List S36} {ok : Bool} {ps : List Int} (h : checkF l = true) (ho : ok = true) (hp : ∀ p ∈ ps, 0 ≤ p ∧ p < l.length) : givenC l ok ps = 0 := by
  unfold givenC
  rw [if_pos h, if_neg]
  rw [ho, Bool.not_true, Bool.false_or, List.any_eq_true]
  rintro ⟨p, hm, he⟩
  obtain ⟨h1, h2⟩ := hp p hm
  unfold offP at he
  rw [Bool.or_eq_true, decide_eq_true_iff, decide_eq_true_iff] at he
  omega
theorem given_same {l n : List S36} (hl : checkF l = true) (hn : checkF n = true) (e : n.length = l.length) (ok : Bool) (ps : List Int) : givenC n ok ps = givenC l ok ps := by
  unfold givenC
  rw [if_pos hl, if_pos hn, e]
theorem move_bad {l : List S36} {oid place : Int} (h : (moveF l oid place).2 ≠ 0) : (moveF l oid place).1 = [] := by
  unfold moveF at h ⊢
  by_cases h1 : givenC l (decide (1 ≤ oid)) [place] = 0
  · rw [if_pos h1] at h ⊢
    by_cases h2 : (whereL l oid).2 = true
    · rw [if_pos h2] at h ⊢
      by_cases h3 : (!(postA l place).f0 || (whereL l oid).1.f1 == place) = true
      · rw [if_pos h3]
      · rw [if_neg h3] at h ⊢
        by_cases h4 : (decide (1099511627776 ≤ (whereL l oid).1.f2) || decide (4000 ≤ (postA l place).f1.length) || decide (4000 ≤ (postA l (whereL l oid).1.f1).f2.length)) = true
        · rw [if_pos h4]
        · rw [if_neg h4] at h
          exact absurd rfl h
    · rw [if_neg h2]
  · rw [if_neg h1]
structure MoveOk (l n : List S36) (oid place : Int) (a b : Nat) (x y : S36) (h : S31) : Prop where
  chk : checkF l = true
  oid1 : 1 ≤ oid
  pl : place = (b : Int)
  wh : whereL l oid = (h, true)
  f0 : h.f0 = oid
  f1 : h.f1 = (a : Int)
  ab : a ≠ b
  ga : l[a]? = some x
  gb : l[b]? = some y
  has : HasAt l a h
  t0 : 0 ≤ h.f2
  new : n = moveL l a b oid ⟨oid, b, h.f2 + 1⟩ x y
  chk2 : checkF n = true
  len : n.length = l.length
theorem move_ok {l : List S36} {oid place : Int} (h : (moveF l oid place).2 = 0) : ∃ a b x y hh, MoveOk l (moveF l oid place).1 oid place a b x y hh := by
  unfold moveF at h ⊢
  by_cases h1 : givenC l (decide (1 ≤ oid)) [place] = 0
  rotate_left
  · rw [if_neg h1] at h; exact absurd h h1
  rw [if_pos h1] at h ⊢
  by_cases h2 : (whereL l oid).2 = true
  rotate_left
  · rw [if_neg h2] at h; cases h
  rw [if_pos h2] at h ⊢
  by_cases h3 : (!(postA l place).f0 || (whereL l oid).1.f1 == place) = true
  · rw [if_pos h3] at h; cases h
  rw [if_neg h3] at h ⊢
  by_cases h4 : (decide (1099511627776 ≤ (whereL l oid).1.f2) || decide (4000 ≤ (postA l place).f1.length) || decide (4000 ≤ (postA l (whereL l oid).1.f1).f2.length)) = true
  · rw [if_pos h4] at h; cases h
  rw [if_neg h4]
  obtain ⟨g1, g2, _, _⟩ := given_in h1
  obtain ⟨b, hpb, hbl, hy⟩ := given_post h1
  have hv := check_vat g2
  obtain ⟨a, x, ha, hx, hhas, h0, hhv⟩ := has_here hv h2
  rw [Bool.or_eq_true, not_or, Bool.not_eq_true', Bool.not_eq_false, beq_iff_eq] at h3
  rw [Bool.or_eq_true, Bool.or_eq_true, decide_eq_true_iff, decide_eq_true_iff, decide_eq_true_iff, not_or, not_or] at h4
  have hab : a ≠ b := fun e => h3.2 (by rw [ha, hpb, e])
  have hxa : postA l (whereL l oid).1.f1 = x := by rw [ha]; exact postA_some hx
  have hvm := vat_move hv hab hx hy (by omega) hhas h3.1 (by omega) (by omega) (by rw [← hxa]; omega)
  have hn : moveL l (whereL l oid).1.f1.toNat place.toNat oid ⟨oid, place, (whereL l oid).1.f2 + 1⟩ (postA l (whereL l oid).1.f1) (postA l place) = moveL l a b oid ⟨oid, b, (whereL l oid).1.f2 + 1⟩ x (postA l place) := by
    rw [hxa, ha, Int.toNat_natCast, hpb, Int.toNat_natCast]
  have hlen : (moveL l a b oid ⟨oid, b, (whereL l oid).1.f2 + 1⟩ x (postA l place)).length = l.length := by unfold moveL; rw [List.length_set, List.length_set]
  have hm := (check_iff l).1 g2
  rw [h0] at hvm
  refine ⟨a, b, x, postA l place, (whereL l oid).1, g2, by simpa using g1, hpb, Prod.ext rfl h2, h0, ha, hab, hx, hy, hhas, hhv.t0, hn, ?_, by dsimp only; rw [hn, hlen]⟩
  dsimp only
  rw [hn]
  refine (check_iff _).2 ⟨by rw [hlen]; exact hm.one, by rw [hlen]; exact hm.most, ?_⟩
  rw [hlen]
  exact (vat_iff _ _).2 hvm
section
variable {l n : List S36} {oid place : Int} {a b : Nat} {x y : S36} {h : S31}
theorem MoveOk.moved (m : MoveOk l n oid place a b x y h) : Moved l n a b h ⟨oid, b, h.f2 + 1⟩ := by
  have := moved_is (check_vat m.chk) m.ab m.ga m.gb m.has (next := ⟨oid, b, h.f2 + 1⟩) m.f0.symm
  rw [m.f0] at this
  rw [m.new]
  exact this
theorem MoveOk.was (m : MoveOk l n oid place a b x y h) : whereF l oid = (h, 0) := by
  unfold whereF
  rw [given_of m.chk (decide_eq_true m.oid1) (fun p hp => by cases hp), m.wh]
  rfl
theorem MoveOk.now (m : MoveOk l n oid place a b x y h) : whereF n oid = (⟨oid, b, h.f2 + 1⟩, 0) := by
  have hh := has_where (check_vat m.chk2) ((m.moved.has b ⟨oid, b, h.f2 + 1⟩).2 (.inl ⟨rfl, rfl⟩))
  dsimp only at hh
  unfold whereF
  rw [given_of m.chk2 (decide_eq_true m.oid1) (fun p hp => by cases hp), hh]
  rfl
theorem MoveOk.look (m : MoveOk l n oid place a b x y h) {i : Nat} (hi : i < l.length) (hc : (lookF l i oid).2.2 = 0) : (lookF l i oid).1.f2 < h.f2 + 1 ∧ (lookF l i oid).2.1 = ((i : Int) == (a : Int)) := by
  have hv := check_vat m.chk
  have hx : l[i]? = some l[i] := List.getElem?_eq_getElem hi
  have hp := hv.ok _ (List.mem_of_getElem? hx)
  have hal := (List.getElem?_eq_some_iff.1 m.ga).1
  unfold lookF at hc ⊢
  rw [if_pos (given_of m.chk (decide_eq_true m.oid1) (fun p hp => by rw [List.mem_singleton] at hp; omega))] at hc ⊢
  rw [postA_some hx] at hc ⊢
  by_cases h1 : atB l[i].f1 oid = true
  · rw [if_pos h1]
    obtain ⟨q1, q2⟩ := at_found h1
    have e := hv.once i a _ h ⟨_, hx, q1⟩ m.has (by rw [q2, m.f0])
    have hi2 := hv.here i _ ⟨_, hx, q1⟩
    rw [e, m.f1] at hi2
    refine ⟨by show (lookL l[i].f1 oid).f2 < _; rw [e]; omega, ?_⟩
    show true = _
    rw [hi2]; simp
  · rw [if_neg h1] at hc ⊢
    have hne : i ≠ a := fun e => by
      subst e
      obtain ⟨p, hp1, hp2⟩ := m.has
      rw [hx] at hp1
      cases hp1
      exact h1 (m.f0 ▸ at_of_mem hp.has.sorted hp2)
    have hb : ((i : Int) == (a : Int)) = false := by rw [beq_eq_false_iff_ne]; omega
    by_cases h2 : atB l[i].f2 oid = true
    · rw [if_pos h2]
      obtain ⟨q1, q2⟩ := at_found h2
      refine ⟨?_, hb.symm⟩
      show (lookL l[i].f2 oid).f2 < _
      rcases hv.older a i h _ m.has ⟨_, hx, q1⟩ (by rw [q2, m.f0]) with c | c <;> omega
    · rw [if_neg h2] at hc
      cases hc
theorem MoveOk.at_a (m : MoveOk l n oid place a b x y h) : n[a]? = some ⟨x.f0, withoutL x.f1 oid, putL x.f2 ⟨oid, b, h.f2 + 1⟩⟩ := by
  have hb2 : (l.set a ⟨x.f0, withoutL x.f1 oid, putL x.f2 ⟨oid, b, h.f2 + 1⟩⟩)[b]? = some y := by rw [set_at m.ga, if_neg (Ne.symm m.ab)]; exact m.gb
  rw [m.new]
  unfold moveL
  rw [set_at hb2, if_neg m.ab, set_at m.ga, if_pos rfl]
theorem MoveOk.at_b (m : MoveOk l n oid place a b x y h) : n[b]? = some ⟨y.f0, putL y.f1 ⟨oid, b, h.f2 + 1⟩, withoutL y.f2 oid⟩ := by
  have hb2 : (l.set a ⟨x.f0, withoutL x.f1 oid, putL x.f2 ⟨oid, b, h.f2 + 1⟩⟩)[b]? = some y := by rw [set_at m.ga, if_neg (Ne.symm m.ab)]; exact m.gb
  rw [m.new]
  unfold moveL
  rw [set_at hb2, if_pos rfl]
theorem MoveOk.follow (m : MoveOk l n oid place a b x y h) : followF n h.f1 oid = ([(a : Int), (b : Int)], true, 0) := by
  have hv := check_vat m.chk
  have hal := (List.getElem?_eq_some_iff.1 m.ga).1
  have hx := hv.ok x (List.mem_of_getElem? m.ga)
  have hy := hv.ok y (List.mem_of_getElem? m.gb)
  have q1 : atB (withoutL x.f1 oid) oid = false := (at_none (without_sorted hx.has.sorted oid) (fun z hz => (without_mem.1 hz).2)).1
  have q2 := look_of_mem (put_sorted hx.hints.sorted ⟨oid, b, h.f2 + 1⟩) (x := ⟨oid, b, h.f2 + 1⟩) (put_mem.2 (.inl rfl))
  have q3 := look_of_mem (put_sorted hy.has.sorted ⟨oid, b, h.f2 + 1⟩) (x := ⟨oid, b, h.f2 + 1⟩) (put_mem.2 (.inl rfl))
  dsimp only at q2 q3
  have ht := m.t0
  have n1 : nxH n oid (a : Int) (-1) = (((b : Int), true), h.f2 + 1) := by
    unfold nxH
    rw [postA_some m.at_a, if_neg (by rw [q1]; simp), q2.1, q2.2, decide_eq_true (by show -1 < h.f2 + 1; omega)]
    rfl
  have n2 : nxH n oid (b : Int) (h.f2 + 1) = ((0, false), h.f2 + 1) := by
    unfold nxH
    rw [postA_some m.at_b, if_pos q3.1]
  have hf : followL n oid (a : Int) = [(a : Int), (b : Int)] := by
    unfold followL
    rw [show (1099511627778 : Nat) = 1099511627777 + 1 from rfl, stepsR, n1, if_pos rfl, show (1099511627777 : Nat) = 1099511627776 + 1 from rfl, stepsR, n2, if_neg (by simp)]
  unfold followF
  rw [m.f1, if_pos (given_of m.chk2 (decide_eq_true m.oid1) (fun p hp => by rw [List.mem_singleton] at hp; have := m.len; omega)), hf]
  unfold foundB lastI
  show (_, atB (postA n (b : Int)).f1 oid, _) = _
  rw [postA_some m.at_b]
  show (_, atB (putL y.f1 ⟨oid, b, h.f2 + 1⟩) oid, _) = _
  rw [q3.1]
theorem MoveOk.others (m : MoveOk l n oid place a b x y h) (from' other : Int) (ho : other ≠ oid) : lookF n from' other = lookF l from' other := by
  have hv := check_vat m.chk
  have hn := check_vat m.chk2
  unfold lookF
  rw [given_same m.chk m.chk2 m.len]
  by_cases hg : givenC l (decide (1 ≤ other)) [from'] = 0
  rotate_left
  · rw [if_neg hg, if_neg hg]
  rw [if_pos hg, if_pos hg]
  obtain ⟨j, rfl, hj, hl⟩ := given_post hg
  have hjn : j < n.length := by rw [m.len]; exact hj
  have hnx : n[j]? = some n[j] := List.getElem?_eq_getElem hjn
  obtain ⟨p, hp⟩ : ∃ p, p = postA l (j : Int) := ⟨_, rfl⟩
  rw [← hp] at hl
  obtain ⟨q, hq⟩ : ∃ q, q = n[j] := ⟨_, rfl⟩
  rw [← hq] at hnx
  rw [postA_some hl, postA_some hnx]
  have e1 := look_ext (hn.ok q (List.mem_of_getElem? hnx)).has.sorted (hv.ok p (List.mem_of_getElem? hl)).has.sorted other (fun z hz => by
    rw [← has_in hnx, ← has_in hl, m.moved.has j z]
    exact ⟨fun c => c.elim (fun c => by rw [c.2] at hz; exact absurd hz.symm ho) (·.1), fun c => .inr ⟨c, by rw [hz, m.f0]; exact ho⟩⟩)
  have e2 := look_ext (hn.ok q (List.mem_of_getElem? hnx)).hints.sorted (hv.ok p (List.mem_of_getElem? hl)).hints.sorted other (fun z hz => by
    rw [← hint_in hnx, ← hint_in hl, m.moved.hints j z]
    exact ⟨fun c => c.elim (fun c => by rw [c.2] at hz; exact absurd hz.symm ho) (·.1), fun c => .inr ⟨c, fun c2 => ho (by rw [← hz, c2.1, m.f0])⟩⟩)
  rw [e1.1, e1.2, e2.1, e2.2]
end
end Go.Proofs.Ytjnceoohlcchnaa.Print
