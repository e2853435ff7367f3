/- FindMoved: for every map and every numbers the statement answers true, and all read afterwards as before; without condition. -/
import Derived.Test.YtjnceoohlcchnaaRH
import Derived.Test.YtjnceoohlcchnaaRG
import Derived.Test.YtjnceoohlcchnaaRE
import Derived.Test.YtjnceoohlcchnaaRD
import Derived.Test.YtjnceoohlcchnaaR3
import Derived.Test.YtjnceoohlcchnaaRB
import Derived.Test.YtjnceoohlcchnaaRF
import Derived.Deep.Slices
import Derived.Deep.SlicePairs
import Derived.SizedLaws
import Derived.WalkKit
import Derived.ProofKit
import Derived.OpenShut
import Derived.ChangeOld
import Derived.Below
import Derived.Test.YtjnceoohlcchnaaRows
import Derived.ShutString
set_option linter.unusedVariables false
set_option linter.unusedSimpArgs false
/-! The map of the document's examples. -/
namespace Go.Proofs.Ytjnceoohlcchnaa.Print
open Go Go.RowKit Go.Deep Go.Proofs.YtjnceoohlcchnaaW.PrintWords Go.Proofs.YtjnceoohlcchnaaW.PrintLast Go.Proofs.YtjnceoohlcchnaaW.PrintMore

def mapA : List S36 := [⟨true, [⟨7, 0, 0⟩], []⟩, ⟨true, [], []⟩, ⟨true, [], []⟩, ⟨true, [], []⟩]
def mapB : List S36 := [⟨true, [], [⟨7, 1, 1⟩]⟩, ⟨true, [⟨7, 1, 1⟩], []⟩, ⟨true, [], []⟩, ⟨true, [], []⟩]
def mapS : List S36 := [⟨true, [], [⟨7, 1, 1⟩]⟩, ⟨true, [], [⟨7, 2, 2⟩]⟩, ⟨true, [⟨7, 2, 2⟩], []⟩, ⟨true, [], []⟩]
theorem s_new : newF 4 = (newL 4, 0) := by kernel_rfl
theorem s_make : makeF (newL 4) 7 0 = (mapA, 0) := by kernel_rfl
theorem s_move1 : moveF mapA 7 1 = (mapB, 0) := by kernel_rfl
theorem s_move2 : moveF mapB 7 2 = (mapS, 0) := by kernel_rfl
theorem s_where : whereF mapS 7 = (⟨7, 2, 2⟩, 0) := by kernel_rfl
theorem s_follow : followF mapS 0 7 = ([0, 1, 2], true, 0) := by kernel_rfl
theorem s_search0 : (searchF mapS 0 7).2 = (⟨7, 2, 2⟩, 3, 0) := by kernel_rfl
theorem s_searchL : (searchF mapS 0 7).1.length = 4 := by kernel_rfl
theorem s_search3 : (searchF mapS 3 7).2 = (⟨7, 2, 2⟩, 4, 0) := by kernel_rfl
theorem s_next : nextF mapS 0 7 1 = ((1, 1), 0) := by kernel_rfl
theorem s_route : routeF mapS 0 7 1 = ([0, 1, 2], true, 0) := by kernel_rfl
theorem s_tell : tellG mapS 3 ⟨7, 1, 2⟩ = ([], 1) := by kernel_rfl
theorem s_move3 : moveF mapS 7 2 = ([], 1) := by kernel_rfl
theorem s_move4 : moveF mapS 8 1 = ([], 3) := by kernel_rfl
theorem short_ok {l : List S36} (h : checkF l = true) : Short l := vat_short (check_vat h) (by have := ((check_iff l).1 h).most; omega)
theorem s_short0 : Short (newL 4) := short_ok (by kernel_rfl)
theorem s_shortA : Short mapA := short_ok (by kernel_rfl)
theorem s_shortB : Short mapB := short_ok (by kernel_rfl)
theorem s_shortS : Short mapS := short_ok (by kernel_rfl)
set_option maxRecDepth 100000 in
theorem sample_any (w : World) : Calls Try.prog 53 #[] w fun e w' => ∃ A c, e = .returned (.tuple #[.slice A mapS.length c, .bool true]) ∧ mapS.length ≤ c ∧ Kd.C k36 w' A mapS.length mapS ∧ Below w.heap.size w w' := by
  go_enter Try.func53, Try.ntmps53
  go_wp2_with fail
  refine (New_any 4 w).mono ?_
  rintro e w1 ⟨A1, c1, rfl, hc1, hC1, hB⟩
  rw [s_new] at hc1 hC1 ⊢
  have HB1 := Aside0.mk hB
  have HC1 := Aside0.mk hC1
  clear hB hC1
  go_wp2_with fail
  refine (Make_any A1 _ c1 (newL 4) 7 0 w1 rfl HC1.out hc1 s_short0).mono ?_
  rintro e w2 ⟨A2, c2, rfl, hc2, hC2, hB⟩
  rw [s_make] at hc2 hC2 ⊢
  have HB2 := Aside0.mk (below_step HB1.out hB)
  have HC2 := Aside0.mk hC2
  clear hB hC2
  go_wp2_with fail
  refine (Move_any A2 _ c2 mapA 7 1 w2 rfl HC2.out hc2 s_shortA).mono ?_
  rintro e w3 ⟨A3, c3, rfl, hc3, hC3, hB⟩
  rw [s_move1] at hc3 hC3 ⊢
  have HB3 := Aside0.mk (below_step HB2.out hB)
  have HC3 := Aside0.mk hC3
  clear hB hC3
  go_wp2_with fail
  refine (Move_any A3 _ c3 mapB 7 2 w3 rfl HC3.out hc3 s_shortB).mono ?_
  rintro e w4 ⟨A4, c4, rfl, hc4, hC4, hB⟩
  rw [s_move2] at hc4 hC4 ⊢
  have HB4 := Aside0.mk (below_step HB3.out hB)
  have HC4 := Aside0.mk hC4
  clear hB hC4
  go_wp2_with fail
  go_returns
  exact ⟨A4, c4, rfl, hc4, HC4.out, HB4.out⟩
end Go.Proofs.Ytjnceoohlcchnaa.Print

/-! The document's examples hold. -/
namespace Go.Proofs.Ytjnceoohlcchnaa.Print
open Go Go.RowKit Go.Deep Go.Proofs.YtjnceoohlcchnaaW.PrintWords Go.Proofs.YtjnceoohlcchnaaW.PrintLast Go.Proofs.YtjnceoohlcchnaaW.PrintMore

/-- a row of three numbers -/
theorem three_ints {w : World} {g : Nat} {a b c : Int} (h : w.heap[g]? = some (.cells #[.int .i64 a, .int .i64 b, .int .i64 c] 3 (0, 0))) : Kd.C (Kd.int .i64) w (some ⟨g, 0, none⟩) 3 [a, b, c] := by
  obtain ⟨k0, k1, k2, _, _, _⟩ := blk3 h
  refine ⟨rfl, by omega, fun _ => ⟨_, rfl, fun j x hj => ?_⟩⟩
  match j, hj with
  | 0, hj => cases hj; exact ⟨[.int .i64 a], rfl, rfl, fun k u hk => by match k, hk with | 0, hk => cases hk; simpa [Addr.add] using k0⟩
  | 1, hj => cases hj; exact ⟨[.int .i64 b], rfl, rfl, fun k u hk => by match k, hk with | 0, hk => cases hk; show w.cell? ((⟨g, 0, none⟩ : Addr).add 1) = _; rw [Addr.add_lit]; exact k1⟩
  | 2, hj => cases hj; exact ⟨[.int .i64 c], rfl, rfl, fun k u hk => by match k, hk with | 0, hk => cases hk; show w.cell? ((⟨g, 0, none⟩ : Addr).add 2) = _; rw [Addr.add_lit]; exact k2⟩
set_option maxRecDepth 100000 in
set_option maxHeartbeats 16000000 in
theorem awake_any (w : World) : Calls Try.prog 12 #[] w fun e w' => e = .returned (.bool true) ∧ Below w.heap.size w w' := by
  have heq : ∀ W, (Op.equal 31 (.agg #[.int .i64 7, .int .i64 2, .int .i64 2]) (.agg #[.int .i64 7, .int .i64 2, .int .i64 2])).run Try.prog W = .ok true W := fun W => eq_hint ⟨7, 2, 2⟩ ⟨7, 2, 2⟩ W
  have hu := Try.underlying31
  go_enter Try.func12, Try.ntmps12
  go_wp2_with fail
  refine (sample_any w).mono ?_
  rintro e w1 ⟨A, c, rfl, hc, hC, hB⟩
  have HB1 := Aside0.mk hB
  have HC1 := Aside0.mk hC
  clear hB hC
  go_wp2_with fail
  refine (Where_any A _ c mapS 7 w1 rfl HC1.out hc s_shortS).mono ?_
  rintro e w2 ⟨rfl, hB⟩
  rw [s_where]
  simp only [hintV]
  obtain ⟨w2', hw2⟩ : ∃ W, W = w2.alloc (Obj.cells #[Value.int IntKind.i64 7, Value.int IntKind.i64 2, Value.int IntKind.i64 2] 31) := ⟨_, rfl⟩
  obtain ⟨g3, hg3⟩ : ∃ g, g = w2.heap.size := ⟨_, rfl⟩
  have hB12 : Below w1.heap.size w1 w2' := by rw [hw2]; exact below_alloc hB _
  have HB2 := Aside0.mk (below_step HB1.out hB12)
  have HC2 := Aside0.mk (Kd.C_below HC1.out hB12)
  have HX2 : Aside0 (w2'.heap[g3]? = some (.cells #[.int .i64 7, .int .i64 2, .int .i64 2] 31 (0, 0))) := ⟨by rw [hw2, hg3]; exact heap_alloc_new _ _⟩
  clear hB hB12
  go_upto_region 5 with fail
  rw [← hw2, ← hg3]
  clear hw2 hg3
  go_wp2_with fail
  refine (Follow_any A _ c mapS 0 7 w2' rfl HC2.out hc s_shortS).mono ?_
  rintro e w3 ⟨v3, rfl, hR, hB⟩
  rw [s_follow] at hR ⊢
  have HB3 := Aside0.mk (below_step HB2.out hB)
  have HC3 := Aside0.mk (Kd.C_below HC2.out hB)
  have HX3 := Aside0.mk (blk_below HX2.out hB)
  obtain ⟨U3, cu3, rfl⟩ := Kd.R_slice hR
  have HR3 := Aside0.mk hR
  clear hB hR
  go_wp2_with fail
  refine (Search_any A _ c mapS 0 7 w3 rfl HC3.out hc s_shortS).mono ?_
  rintro e w4 ⟨A4, c4, rfl, _, _, hB⟩
  rw [s_search0, s_searchL]
  simp only [hintV]
  obtain ⟨w4', hw4⟩ : ∃ W, W = w4.alloc (Obj.cells #[Value.int IntKind.i64 7, Value.int IntKind.i64 2, Value.int IntKind.i64 2] 31) := ⟨_, rfl⟩
  obtain ⟨g9, hg9⟩ : ∃ g, g = w4.heap.size := ⟨_, rfl⟩
  have hB34 : Below w3.heap.size w3 w4' := by rw [hw4]; exact below_alloc hB _
  have HB4 := Aside0.mk (below_step HB3.out hB34)
  have HC4 := Aside0.mk (Kd.C_below HC3.out hB34)
  have HX4 := Aside0.mk (blk_below HX3.out hB34)
  have HR4 := Aside0.mk (Kd.R_below HR3.out hB34)
  have HY4 : Aside0 (w4'.heap[g9]? = some (.cells #[.int .i64 7, .int .i64 2, .int .i64 2] 31 (0, 0))) := ⟨by rw [hw4, hg9]; exact heap_alloc_new _ _⟩
  clear hB hB34
  go_upto_region 7 with fail
  rw [← hw4, ← hg9]
  clear hw4 hg9
  go_wp2_with fail
  refine (Search_any A _ c mapS 3 7 w4' rfl HC4.out hc s_shortS).mono ?_
  rintro e w5 ⟨A5, c5, rfl, _, _, hB⟩
  rw [s_search3]
  simp only [hintV]
  obtain ⟨n5, hn5⟩ : ∃ n, n = (searchF mapS 3 7).1.length := ⟨_, rfl⟩
  rw [← hn5]
  obtain ⟨w5', hw5⟩ : ∃ W, W = w5.alloc (Obj.cells #[Value.int IntKind.i64 7, Value.int IntKind.i64 2, Value.int IntKind.i64 2] 31) := ⟨_, rfl⟩
  have hB45 : Below w4'.heap.size w4' w5' := by rw [hw5]; exact below_alloc hB _
  have HB5 := Aside0.mk (below_step HB4.out hB45)
  have HC5 := Aside0.mk (Kd.C_below HC4.out hB45)
  have HX5 := Aside0.mk (blk_below HX4.out hB45)
  have HY5 := Aside0.mk (blk_below HY4.out hB45)
  have HR5 := Aside0.mk (Kd.R_below HR4.out hB45)
  clear hB hB45 hn5
  go_upto_region 8 with fail
  rw [← hw5]
  clear hw5
  go_wp2_with fail
  refine (Next_any A _ c mapS 0 7 1 w5' rfl HC5.out hc s_shortS).mono ?_
  rintro e w6 ⟨rfl, hB⟩
  rw [s_next]
  have HB6 := Aside0.mk (below_step HB5.out hB)
  have HC6 := Aside0.mk (Kd.C_below HC5.out hB)
  have HX6 := Aside0.mk (blk_below HX5.out hB)
  have HY6 := Aside0.mk (blk_below HY5.out hB)
  have HR6 := Aside0.mk (Kd.R_below HR5.out hB)
  clear hB
  go_wp2_with fail
  refine (Route_any A _ c mapS 0 7 1 w6 rfl HC6.out hc s_shortS).mono ?_
  rintro e w7 ⟨v7, rfl, hR, hB⟩
  rw [s_route] at hR ⊢
  obtain ⟨U7, cu7, rfl⟩ := Kd.R_slice hR
  have HB7 := Aside0.mk (below_step HB6.out hB)
  have HC7 := Aside0.mk (Kd.C_below HC6.out hB)
  have HX7 := Aside0.mk (blk_below HX6.out hB)
  have HY7 := Aside0.mk (blk_below HY6.out hB)
  have HR7 := Aside0.mk (Kd.R_below HR6.out hB)
  have HQ7 := Aside0.mk hR
  clear hB hR
  go_upto_region 13 with fail
  obtain ⟨w8, hw8⟩ : ∃ W, W = w7.alloc (Obj.cells #[Value.int IntKind.i64 7, Value.int IntKind.i64 2, Value.int IntKind.i64 2] 31) := ⟨_, rfl⟩
  obtain ⟨g22, hg22⟩ : ∃ g, g = w7.heap.size := ⟨_, rfl⟩
  rw [← hw8, ← hg22]
  have hB78 : Below w7.heap.size w7 w8 := by rw [hw8]; exact below_alloc (Below.refl _ _) _
  have HB8 := Aside0.mk (below_step HB7.out hB78)
  have HC8 := Aside0.mk (Kd.C_below HC7.out hB78)
  have HX8 := Aside0.mk (blk_below HX7.out hB78)
  have HY8 := Aside0.mk (blk_below HY7.out hB78)
  have HR8 := Aside0.mk (Kd.R_below HR7.out hB78)
  have HQ8 := Aside0.mk (Kd.R_below HQ7.out hB78)
  have HZ8 : Aside0 (w8.heap[g22]? = some (.cells #[.int .i64 7, .int .i64 2, .int .i64 2] 31 (0, 0))) := ⟨by rw [hw8, hg22]; exact heap_alloc_new _ _⟩
  clear hw8 hg22 hB78 HB7 HC7 HX7 HY7 HR7 HQ7 HB6 HC6 HX6 HY6 HR6 HB5 HC5 HX5 HY5 HR5
  obtain ⟨x0, x1, x2, _, _, _⟩ := blk3 HX8.out
  obtain ⟨y0, y1, y2, _, _, _⟩ := blk3 HY8.out
  obtain ⟨z0, z1, z2, _, _, _⟩ := blk3 HZ8.out
  go_wp2_with fail
  have hB89 := below_alloc (Below.refl w8.heap.size w8) (Obj.cells #[Value.int IntKind.i64 0, Value.int IntKind.i64 1, Value.int IntKind.i64 2] 3)
  have HS9 := Aside0.mk (berylref17_SameInts.calls 5 U3 cu3 [0, 1, 2] (some ⟨w8.heap.size, 0, none⟩) 3 [0, 1, 2] true (w8.alloc (Obj.cells #[Value.int IntKind.i64 0, Value.int IntKind.i64 1, Value.int IntKind.i64 2] 3)) (Kd.C_below (Kd.R_reads' HR8.out).2.2 hB89) (Kd.R_reads' HR8.out).2.1 (three_ints (heap_alloc_new _ _)) (by simp) (by kernel_rfl))
  clear hB89 x0 x1 x2 y0 y1 y2 z0 z1 z2
  refine HS9.out.mono ?_
  rintro e w9 ⟨rfl, ⟨nd, rfl⟩⟩
  obtain ⟨w9, hw9⟩ : ∃ W, W = (w8.alloc (Obj.cells #[Value.int IntKind.i64 0, Value.int IntKind.i64 1, Value.int IntKind.i64 2] 3)).drewN nd := ⟨_, rfl⟩
  rw [← hw9]
  have hB89 : Below w8.heap.size w8 w9 := by rw [hw9]; exact pw_below_drewN (below_alloc (Below.refl _ _) _) nd
  have HB9 := Aside0.mk (below_step HB8.out hB89)
  have HC9 := Aside0.mk (Kd.C_below HC8.out hB89)
  have HQ9 := Aside0.mk (Kd.R_below HQ8.out hB89)
  clear hw9 hB89 HS9 HX8 HY8 HZ8 HR8
  go_wp2_with fail
  have hB9 := below_alloc (Below.refl w9.heap.size w9) (Obj.cells #[Value.int IntKind.i64 0, Value.int IntKind.i64 1, Value.int IntKind.i64 2] 3)
  have HS9 := Aside0.mk (berylref17_SameInts.calls 5 U7 cu7 [0, 1, 2] (some ⟨w9.heap.size, 0, none⟩) 3 [0, 1, 2] true (w9.alloc (Obj.cells #[Value.int IntKind.i64 0, Value.int IntKind.i64 1, Value.int IntKind.i64 2] 3)) (Kd.C_below (Kd.R_reads' HQ9.out).2.2 hB9) (Kd.R_reads' HQ9.out).2.1 (three_ints (heap_alloc_new _ _)) (by simp) (by kernel_rfl))
  clear hB9
  refine HS9.out.mono ?_
  rintro e wx ⟨rfl, ⟨nd, rfl⟩⟩
  obtain ⟨wt, hwt⟩ : ∃ W, W = (w9.alloc (Obj.cells #[Value.int IntKind.i64 0, Value.int IntKind.i64 1, Value.int IntKind.i64 2] 3)).drewN nd := ⟨_, rfl⟩
  rw [← hwt]
  have hB9t : Below w9.heap.size w9 wt := by rw [hwt]; exact pw_below_drewN (below_alloc (Below.refl _ _) _) nd
  have HBt := Aside0.mk (below_step HB9.out hB9t)
  have HCt := Aside0.mk (Kd.C_below HC9.out hB9t)
  clear hwt hB9t HS9 HQ9 HB9 HC9
  go_wp2_with fail
  refine (Tell_any A _ c mapS 3 ⟨7, 1, 2⟩ wt rfl HCt.out hc s_shortS).mono ?_
  rintro e wu ⟨Au, cu, rfl, _, _, hB⟩
  rw [s_tell]
  have HBu := Aside0.mk (below_step HBt.out hB)
  have HCu := Aside0.mk (Kd.C_below HCt.out hB)
  clear hB
  go_wp2_with fail
  refine (Move_any A _ c mapS 7 2 wu rfl HCu.out hc s_shortS).mono ?_
  rintro e wv ⟨Av, cv, rfl, _, _, hB⟩
  rw [s_move3]
  have HBv := Aside0.mk (below_step HBu.out hB)
  have HCv := Aside0.mk (Kd.C_below HCu.out hB)
  clear hB
  go_wp2_with fail
  refine (Move_any A _ c mapS 8 1 wv rfl HCv.out hc s_shortS).mono ?_
  rintro e wy ⟨Ay, cy, rfl, _, _, hB⟩
  rw [s_move4]
  have HBy := Aside0.mk (below_step HBv.out hB)
  clear hB
  go_wp2_with fail
  go_returns
  exact ⟨rfl, HBy.out⟩
end Go.Proofs.Ytjnceoohlcchnaa.Print

/-! Whether a map is small. -/
namespace Go.Proofs.Ytjnceoohlcchnaa.Print
open Go Go.RowKit Go.Deep Go.Proofs.YtjnceoohlcchnaaW.PrintWords Go.Proofs.YtjnceoohlcchnaaW.PrintLast Go.Proofs.YtjnceoohlcchnaaW.PrintMore

def sumL : List S36 → Nat
  | [] => 0
  | x :: l => x.f1.length + x.f2.length + sumL l
def fewB (l : List S36) : Bool := decide (l.length ≤ 20) && decide (sumL l ≤ 400)
theorem sum_mem : ∀ {l : List S36} {x : S36}, x ∈ l → x.f1.length ≤ sumL l ∧ x.f2.length ≤ sumL l
  | [], x, h => by cases h
  | y :: l, x, h => by
    rw [sumL]
    rcases List.mem_cons.1 h with rfl | h
    · omega
    · have := sum_mem h; omega
theorem sum_take (l : List S36) (i : Nat) (x : S36) (h : l[i]? = some x) : ∀ (l : List S36) (i : Nat) (x : S36), l[i]? = some x → sumL (l.take (i + 1)) = sumL (l.take i) + (x.f1.length + x.f2.length)
  | [], i, x, h => by simp at h
  | y :: l, 0, x, h => by cases h; simp [sumL]
  | y :: l, i + 1, x, h => by
    have ih := sum_take l i x (by simpa using h) l i x (by simpa using h)
    rw [List.take_succ_cons, List.take_succ_cons, sumL, sumL, ih]
    omega
theorem sum_bound : ∀ {l : List S36} {B : Nat}, (∀ x ∈ l, x.f1.length ≤ B ∧ x.f2.length ≤ B) → sumL l ≤ l.length * (2 * B)
  | [], _, _ => Nat.zero_le _
  | y :: l, B, h => by
    have h1 := h y (List.mem_cons_self ..)
    have h2 := sum_bound (fun x hx => h x (List.mem_cons_of_mem _ hx))
    rw [sumL, List.length_cons, Nat.succ_mul]
    omega
theorem few_l0 (l : List S36) (hl : l.length ≤ 20) (hb : ∀ x ∈ l, x.f1.length ≤ 140737488355328 ∧ x.f2.length ≤ 140737488355328) : ∀ (m i k : Nat), i + m = l.length → m < k → beryllaw17_few.l0 k l (sumL (l.take i) : Int) (i : Int) = some (decide (sumL l ≤ 400)) := by
  intro m
  induction m with
  | zero =>
    intro i k hi hk
    obtain ⟨k, rfl⟩ : ∃ j, k = j + 1 := ⟨k - 1, by omega⟩
    rw [beryllaw17_few.l0, if_neg (by omega), List.take_of_length_le (by omega)]
    congr 1
    exact decide_eq_decide.2 (by omega)
  | succ m ih =>
    intro i k hi hk
    obtain ⟨k, rfl⟩ : ∃ j, k = j + 1 := ⟨k - 1, by omega⟩
    have hlt : i < l.length := by omega
    have hrd : rd_T36 l (i : Int) = l[i] := by
      unfold rd_T36
      simp [List.getD_eq_getElem?_getD, List.getElem?_eq_getElem hlt]
    have ih2 := ih (i + 1) k (by omega) (by omega)
    have hst := sum_take l i l[i] (List.getElem?_eq_getElem hlt) l i l[i] (List.getElem?_eq_getElem hlt)
    have hx := hb l[i] (List.getElem_mem hlt)
    have hs := sum_bound (l := l.take i) (B := 140737488355328) (fun x hx => hb x (List.mem_of_mem_take hx))
    rw [List.length_take] at hs
    have hs2 : sumL (l.take i) ≤ 20 * (2 * 140737488355328) := Nat.le_trans hs (Nat.mul_le_mul_right _ (by omega))
    rw [hst] at ih2
    rw [beryllaw17_few.l0, if_pos (by omega), if_pos (by omega), hrd, show wrap64 (((l[i].f1).length : Int) + ((l[i].f2).length : Int)) = (((l[i].f1).length + (l[i].f2).length : Nat) : Int) by unfold wrap64; omega,
      show wrap64 ((sumL (l.take i) : Int) + (((l[i].f1).length + (l[i].f2).length : Nat) : Int)) = ((sumL (l.take i) + (l[i].f1.length + l[i].f2.length) : Nat) : Int) by unfold wrap64; omega, show wrap64 ((i : Int) + 1) = ((i + 1 : Nat) : Int) by unfold wrap64; omega]
    exact ih2
theorem few_f (l : List S36) (hb : ∀ x ∈ l, x.f1.length ≤ 140737488355328 ∧ x.f2.length ≤ 140737488355328) : beryllaw17_few.f (l.length + 1) l = some (fewB l) := by
  unfold beryllaw17_few.f fewB
  by_cases h : l.length ≤ 20
  · rw [if_neg (by omega), decide_eq_true h, Bool.true_and]
    exact few_l0 l h hb l.length 0 _ (by omega) (by omega)
  · rw [if_pos (by omega), decide_eq_false h, Bool.false_and]
theorem few_short {l : List S36} (h : fewB l = true) : Short l := by
  unfold fewB at h
  rw [Bool.and_eq_true, decide_eq_true_iff, decide_eq_true_iff] at h
  exact ⟨by omega, fun x hx => by have := sum_mem hx; omega⟩
/-- what the rows say of a map that is handed in -/
def FitP (l : List S36) : Prop := ∀ x ∈ l, x.f1.length ≤ 140737488355328 ∧ x.f2.length ≤ 140737488355328
theorem few_any (A : Option Addr) (n c : Nat) (l : List S36) (w : World) (hn : n = l.length) (hr : Kd.C k36 w A l.length l) (hc : n ≤ c) (hb : FitP l) :
    Calls Try.prog 13 #[.slice A n c] w fun e w' => e = .returned (.bool (fewB l)) ∧ Below w.heap.size w w' := by
  subst hn
  refine (beryllaw17_few.calls (l.length + 1) A c l (fewB l) w hr hc (few_f l hb)).mono ?_
  rintro e w' ⟨rfl, ⟨nd, rfl⟩⟩
  exact ⟨rfl, pw_below_drewN (Below.refl _ _) nd⟩
end Go.Proofs.Ytjnceoohlcchnaa.Print

/-! what a move is, as the law says it -/
namespace Go.Proofs.Ytjnceoohlcchnaa.Print
open Go Go.RowKit Go.Deep Go.Proofs.YtjnceoohlcchnaaW.PrintWords Go.Proofs.YtjnceoohlcchnaaW.PrintLast Go.Proofs.YtjnceoohlcchnaaW.PrintMore
theorem given_of {l : List S36} {ok : Bool} {ps : List Int} (h : checkF l = true) (ho : ok = true) (hp : ∀ p ∈ ps, 0 ≤ p ∧ p < l.length) : givenC l ok ps = 0 := by
  unfold givenC
  rw [if_pos h, if_neg]
  rw [ho, Bool.not_true, Bool.false_or, List.any_eq_true]
  rintro ⟨p, hm, he⟩
  obtain ⟨h1, h2⟩ := hp p hm
  unfold offP at he
  rw [Bool.or_eq_true, decide_eq_true_iff, decide_eq_true_iff] at he
  omega
theorem given_same {l n : List S36} (hl : checkF l = true) (hn : checkF n = true) (e : n.length = l.length) (ok : Bool) (ps : List Int) : givenC n ok ps = givenC l ok ps := by
  unfold givenC
  rw [if_pos hl, if_pos hn, e]
theorem move_bad {l : List S36} {oid place : Int} (h : (moveF l oid place).2 ≠ 0) : (moveF l oid place).1 = [] := by
  unfold moveF at h ⊢
  by_cases h1 : givenC l (decide (1 ≤ oid)) [place] = 0
  · rw [if_pos h1] at h ⊢
    by_cases h2 : (whereL l oid).2 = true
    · rw [if_pos h2] at h ⊢
      by_cases h3 : (!(postA l place).f0 || (whereL l oid).1.f1 == place) = true
      · rw [if_pos h3]
      · rw [if_neg h3] at h ⊢
        by_cases h4 : (decide (1099511627776 ≤ (whereL l oid).1.f2) || decide (4000 ≤ (postA l place).f1.length) || decide (4000 ≤ (postA l (whereL l oid).1.f1).f2.length)) = true
        · rw [if_pos h4]
        · rw [if_neg h4] at h
          exact absurd rfl h
    · rw [if_neg h2]
  · rw [if_neg h1]
structure MoveOk (l n : List S36) (oid place : Int) (a b : Nat) (x y : S36) (h : S31) : Prop where
  chk : checkF l = true
  oid1 : 1 ≤ oid
  pl : place = (b : Int)
  wh : whereL l oid = (h, true)
  f0 : h.f0 = oid
  f1 : h.f1 = (a : Int)
  ab : a ≠ b
  ga : l[a]? = some x
  gb : l[b]? = some y
  has : HasAt l a h
  t0 : 0 ≤ h.f2
  new : n = moveL l a b oid ⟨oid, b, h.f2 + 1⟩ x y
  chk2 : checkF n = true
  len : n.length = l.length
theorem move_ok {l : List S36} {oid place : Int} (h : (moveF l oid place).2 = 0) : ∃ a b x y hh, MoveOk l (moveF l oid place).1 oid place a b x y hh := by
  unfold moveF at h ⊢
  by_cases h1 : givenC l (decide (1 ≤ oid)) [place] = 0
  rotate_left
  · rw [if_neg h1] at h; exact absurd h h1
  rw [if_pos h1] at h ⊢
  by_cases h2 : (whereL l oid).2 = true
  rotate_left
  · rw [if_neg h2] at h; cases h
  rw [if_pos h2] at h ⊢
  by_cases h3 : (!(postA l place).f0 || (whereL l oid).1.f1 == place) = true
  · rw [if_pos h3] at h; cases h
  rw [if_neg h3] at h ⊢
  by_cases h4 : (decide (1099511627776 ≤ (whereL l oid).1.f2) || decide (4000 ≤ (postA l place).f1.length) || decide (4000 ≤ (postA l (whereL l oid).1.f1).f2.length)) = true
  · rw [if_pos h4] at h; cases h
  rw [if_neg h4]
  obtain ⟨g1, g2, _, _⟩ := given_in h1
  obtain ⟨b, hpb, hbl, hy⟩ := given_post h1
  have hv := check_vat g2
  obtain ⟨a, x, ha, hx, hhas, h0, hhv⟩ := has_here hv h2
  rw [Bool.or_eq_true, not_or, Bool.not_eq_true', Bool.not_eq_false, beq_iff_eq] at h3
  rw [Bool.or_eq_true, Bool.or_eq_true, decide_eq_true_iff, decide_eq_true_iff, decide_eq_true_iff, not_or, not_or] at h4
  have hab : a ≠ b := fun e => h3.2 (by rw [ha, hpb, e])
  have hxa : postA l (whereL l oid).1.f1 = x := by rw [ha]; exact postA_some hx
  have hvm := vat_move hv hab hx hy (by omega) hhas h3.1 (by omega) (by omega) (by rw [← hxa]; omega)
  have hn : moveL l (whereL l oid).1.f1.toNat place.toNat oid ⟨oid, place, (whereL l oid).1.f2 + 1⟩ (postA l (whereL l oid).1.f1) (postA l place) = moveL l a b oid ⟨oid, b, (whereL l oid).1.f2 + 1⟩ x (postA l place) := by
    rw [hxa, ha, Int.toNat_natCast, hpb, Int.toNat_natCast]
  have hlen : (moveL l a b oid ⟨oid, b, (whereL l oid).1.f2 + 1⟩ x (postA l place)).length = l.length := by unfold moveL; rw [List.length_set, List.length_set]
  have hm := (check_iff l).1 g2
  rw [h0] at hvm
  refine ⟨a, b, x, postA l place, (whereL l oid).1, g2, by simpa using g1, hpb, Prod.ext rfl h2, h0, ha, hab, hx, hy, hhas, hhv.t0, hn, ?_, by dsimp only; rw [hn, hlen]⟩
  dsimp only
  rw [hn]
  refine (check_iff _).2 ⟨by rw [hlen]; exact hm.one, by rw [hlen]; exact hm.most, ?_⟩
  rw [hlen]
  exact (vat_iff _ _).2 hvm
section
variable {l n : List S36} {oid place : Int} {a b : Nat} {x y : S36} {h : S31}
theorem MoveOk.moved (m : MoveOk l n oid place a b x y h) : Moved l n a b h ⟨oid, b, h.f2 + 1⟩ := by
  have := moved_is (check_vat m.chk) m.ab m.ga m.gb m.has (next := ⟨oid, b, h.f2 + 1⟩) m.f0.symm
  rw [m.f0] at this
  rw [m.new]
  exact this
theorem MoveOk.was (m : MoveOk l n oid place a b x y h) : whereF l oid = (h, 0) := by
  unfold whereF
  rw [given_of m.chk (decide_eq_true m.oid1) (fun p hp => by cases hp), m.wh]
  rfl
theorem MoveOk.now (m : MoveOk l n oid place a b x y h) : whereF n oid = (⟨oid, b, h.f2 + 1⟩, 0) := by
  have hh := has_where (check_vat m.chk2) ((m.moved.has b ⟨oid, b, h.f2 + 1⟩).2 (.inl ⟨rfl, rfl⟩))
  dsimp only at hh
  unfold whereF
  rw [given_of m.chk2 (decide_eq_true m.oid1) (fun p hp => by cases hp), hh]
  rfl
theorem MoveOk.look (m : MoveOk l n oid place a b x y h) {i : Nat} (hi : i < l.length) (hc : (lookF l i oid).2.2 = 0) : (lookF l i oid).1.f2 < h.f2 + 1 ∧ (lookF l i oid).2.1 = ((i : Int) == (a : Int)) := by
  have hv := check_vat m.chk
  have hx : l[i]? = some l[i] := List.getElem?_eq_getElem hi
  have hp := hv.ok _ (List.mem_of_getElem? hx)
  have hal := (List.getElem?_eq_some_iff.1 m.ga).1
  unfold lookF at hc ⊢
  rw [if_pos (given_of m.chk (decide_eq_true m.oid1) (fun p hp => by rw [List.mem_singleton] at hp; omega))] at hc ⊢
  rw [postA_some hx] at hc ⊢
  by_cases h1 : atB l[i].f1 oid = true
  · rw [if_pos h1]
    obtain ⟨q1, q2⟩ := at_found h1
    have e := hv.once i a _ h ⟨_, hx, q1⟩ m.has (by rw [q2, m.f0])
    have hi2 := hv.here i _ ⟨_, hx, q1⟩
    rw [e, m.f1] at hi2
    refine ⟨by show (lookL l[i].f1 oid).f2 < _; rw [e]; omega, ?_⟩
    show true = _
    rw [hi2]; simp
  · rw [if_neg h1] at hc ⊢
    have hne : i ≠ a := fun e => by
      subst e
      obtain ⟨p, hp1, hp2⟩ := m.has
      rw [hx] at hp1
      cases hp1
      exact h1 (m.f0 ▸ at_of_mem hp.has.sorted hp2)
    have hb : ((i : Int) == (a : Int)) = false := by rw [beq_eq_false_iff_ne]; omega
    by_cases h2 : atB l[i].f2 oid = true
    · rw [if_pos h2]
      obtain ⟨q1, q2⟩ := at_found h2
      refine ⟨?_, hb.symm⟩
      show (lookL l[i].f2 oid).f2 < _
      rcases hv.older a i h _ m.has ⟨_, hx, q1⟩ (by rw [q2, m.f0]) with c | c <;> omega
    · rw [if_neg h2] at hc
      cases hc
theorem MoveOk.at_a (m : MoveOk l n oid place a b x y h) : n[a]? = some ⟨x.f0, withoutL x.f1 oid, putL x.f2 ⟨oid, b, h.f2 + 1⟩⟩ := by
  have hb2 : (l.set a ⟨x.f0, withoutL x.f1 oid, putL x.f2 ⟨oid, b, h.f2 + 1⟩⟩)[b]? = some y := by rw [set_at m.ga, if_neg (Ne.symm m.ab)]; exact m.gb
  rw [m.new]
  unfold moveL
  rw [set_at hb2, if_neg m.ab, set_at m.ga, if_pos rfl]
theorem MoveOk.at_b (m : MoveOk l n oid place a b x y h) : n[b]? = some ⟨y.f0, putL y.f1 ⟨oid, b, h.f2 + 1⟩, withoutL y.f2 oid⟩ := by
  have hb2 : (l.set a ⟨x.f0, withoutL x.f1 oid, putL x.f2 ⟨oid, b, h.f2 + 1⟩⟩)[b]? = some y := by rw [set_at m.ga, if_neg (Ne.symm m.ab)]; exact m.gb
  rw [m.new]
  unfold moveL
  rw [set_at hb2, if_pos rfl]
theorem MoveOk.follow (m : MoveOk l n oid place a b x y h) : followF n h.f1 oid = ([(a : Int), (b : Int)], true, 0) := by
  have hv := check_vat m.chk
  have hal := (List.getElem?_eq_some_iff.1 m.ga).1
  have hx := hv.ok x (List.mem_of_getElem? m.ga)
  have hy := hv.ok y (List.mem_of_getElem? m.gb)
  have q1 : atB (withoutL x.f1 oid) oid = false := (at_none (without_sorted hx.has.sorted oid) (fun z hz => (without_mem.1 hz).2)).1
  have q2 := look_of_mem (put_sorted hx.hints.sorted ⟨oid, b, h.f2 + 1⟩) (x := ⟨oid, b, h.f2 + 1⟩) (put_mem.2 (.inl rfl))
  have q3 := look_of_mem (put_sorted hy.has.sorted ⟨oid, b, h.f2 + 1⟩) (x := ⟨oid, b, h.f2 + 1⟩) (put_mem.2 (.inl rfl))
  dsimp only at q2 q3
  have ht := m.t0
  have n1 : nxH n oid (a : Int) (-1) = (((b : Int), true), h.f2 + 1) := by
    unfold nxH
    rw [postA_some m.at_a, if_neg (by rw [q1]; simp), q2.1, q2.2, decide_eq_true (by show -1 < h.f2 + 1; omega)]
    rfl
  have n2 : nxH n oid (b : Int) (h.f2 + 1) = ((0, false), h.f2 + 1) := by
    unfold nxH
    rw [postA_some m.at_b, if_pos q3.1]
  have hf : followL n oid (a : Int) = [(a : Int), (b : Int)] := by
    unfold followL
    rw [show (1099511627778 : Nat) = 1099511627777 + 1 from rfl, stepsR, n1, if_pos rfl, show (1099511627777 : Nat) = 1099511627776 + 1 from rfl, stepsR, n2, if_neg (by simp)]
  unfold followF
  rw [m.f1, if_pos (given_of m.chk2 (decide_eq_true m.oid1) (fun p hp => by rw [List.mem_singleton] at hp; have := m.len; omega)), hf]
  unfold foundB lastI
  show (_, atB (postA n (b : Int)).f1 oid, _) = _
  rw [postA_some m.at_b]
  show (_, atB (putL y.f1 ⟨oid, b, h.f2 + 1⟩) oid, _) = _
  rw [q3.1]
theorem MoveOk.others (m : MoveOk l n oid place a b x y h) (from' other : Int) (ho : other ≠ oid) : lookF n from' other = lookF l from' other := by
  have hv := check_vat m.chk
  have hn := check_vat m.chk2
  unfold lookF
  rw [given_same m.chk m.chk2 m.len]
  by_cases hg : givenC l (decide (1 ≤ other)) [from'] = 0
  rotate_left
  · rw [if_neg hg, if_neg hg]
  rw [if_pos hg, if_pos hg]
  obtain ⟨j, rfl, hj, hl⟩ := given_post hg
  have hjn : j < n.length := by rw [m.len]; exact hj
  have hnx : n[j]? = some n[j] := List.getElem?_eq_getElem hjn
  obtain ⟨p, hp⟩ : ∃ p, p = postA l (j : Int) := ⟨_, rfl⟩
  rw [← hp] at hl
  obtain ⟨q, hq⟩ : ∃ q, q = n[j] := ⟨_, rfl⟩
  rw [← hq] at hnx
  rw [postA_some hl, postA_some hnx]
  have e1 := look_ext (hn.ok q (List.mem_of_getElem? hnx)).has.sorted (hv.ok p (List.mem_of_getElem? hl)).has.sorted other (fun z hz => by
    rw [← has_in hnx, ← has_in hl, m.moved.has j z]
    exact ⟨fun c => c.elim (fun c => by rw [c.2] at hz; exact absurd hz.symm ho) (·.1), fun c => .inr ⟨c, by rw [hz, m.f0]; exact ho⟩⟩)
  have e2 := look_ext (hn.ok q (List.mem_of_getElem? hnx)).hints.sorted (hv.ok p (List.mem_of_getElem? hl)).hints.sorted other (fun z hz => by
    rw [← hint_in hnx, ← hint_in hl, m.moved.hints j z]
    exact ⟨fun c => c.elim (fun c => by rw [c.2] at hz; exact absurd hz.symm ho) (·.1), fun c => .inr ⟨c, fun c2 => ho (by rw [← hz, c2.1, m.f0])⟩⟩)
  rw [e1.1, e1.2, e2.1, e2.2]
end
end Go.Proofs.Ytjnceoohlcchnaa.Print

/-! The law of moves, walked. -/
namespace Go.Proofs.Ytjnceoohlcchnaa.Print
open Go Go.RowKit Go.Deep Go.Proofs.YtjnceoohlcchnaaW.PrintWords Go.Proofs.YtjnceoohlcchnaaW.PrintLast Go.Proofs.YtjnceoohlcchnaaW.PrintMore

theorem two_ints {w : World} {g : Nat} {a b : Int} (h : w.heap[g]? = some (.cells #[.int .i64 a, .int .i64 b] 3 (0, 0))) : Kd.C (Kd.int .i64) w (some ⟨g, 0, none⟩) 2 [a, b] := by
  obtain ⟨k0, k1⟩ := blk2 h
  refine ⟨rfl, by omega, fun _ => ⟨_, rfl, fun j x hj => ?_⟩⟩
  match j, hj with
  | 0, hj => cases hj; exact ⟨[.int .i64 a], rfl, rfl, fun k u hk => by match k, hk with | 0, hk => cases hk; simpa [Addr.add] using k0⟩
  | 1, hj => cases hj; exact ⟨[.int .i64 b], rfl, rfl, fun k u hk => by match k, hk with | 0, hk => cases hk; show w.cell? ((⟨g, 0, none⟩ : Addr).add 1) = _; rw [Addr.add_lit]; exact k1⟩
theorem same_two (a b : Int) : berylref17_SameInts.f 4 [a, b] [a, b] = some true := by
  simp [berylref17_SameInts.f, berylref17_SameInts.l0, wrap64]
set_option maxRecDepth 100000 in
set_option maxHeartbeats 16000000 in
theorem moved_walk (A : Option Addr) (c : Nat) (m : List S36) (oid place other frm : Int) (w : World) (hr : Kd.C k36 w A m.length m) (hc : m.length ≤ c) (hf : FitP m) :
    Calls Try.prog 4 #[.slice A m.length c, .int .i64 oid, .int .i64 place, .int .i64 other, .int .i64 frm] w fun e w' => e = .returned (.bool true) ∧ Below w.heap.size w w' := by
  have HR := Aside0.mk hr
  have HF := Aside0.mk hf
  clear hr hf
  have hu := Try.underlying31
  go_enter Try.func4, Try.ntmps4
  go_wp2_with fail
  refine (awake_any w).mono ?_
  rintro e w1 ⟨rfl, hB⟩
  have HB1 := Aside0.mk hB
  clear hB
  go_wp2_with fail
  refine (few_any A m.length c m w1 rfl (Kd.C_below HR.out HB1.out) hc HF.out).mono ?_
  rintro e w2 ⟨rfl, hB⟩
  have HB2 := Aside0.mk (below_step HB1.out hB)
  clear hB HB1
  cases hfw : fewB m with
  | false =>
    clear hfw
    go_wp2_with fail
    go_returns
    exact ⟨rfl, HB2.out⟩
  | true =>
  have HS := Aside0.mk (few_short hfw)
  have hml : m.length ≤ 1000000 := HS.out.1
  clear hfw
  go_wp2_with fail
  refine (Move_any A m.length c m oid place w2 rfl (Kd.C_below HR.out HB2.out) hc HS.out).mono ?_
  rintro e w3 ⟨A3, c3, rfl, hc3, hC3, hB⟩
  have HB3 := Aside0.mk (below_step HB2.out hB)
  clear hB
  by_cases h0 : (moveF m oid place).2 = 0
  rotate_left
  · have hnil := move_bad h0
    obtain ⟨gc, hgc⟩ : ∃ gc, gc = (moveF m oid place).2 := ⟨_, rfl⟩
    rw [hnil, ← hgc]
    rw [← hgc] at h0
    have dg : (gc != 0) = true := by rw [bne_iff_ne]; exact h0
    clear hnil hgc h0 hc3 hC3
    go_wp2_with fail
    go_returns
    exact ⟨rfl, HB3.out⟩
  obtain ⟨a, b, x, y, h, hM⟩ := move_ok h0
  obtain ⟨n, hn⟩ : ∃ n, n = (moveF m oid place).1 := ⟨_, rfl⟩
  rw [← hn] at hM hc3 hC3 ⊢
  rw [h0]
  have hpl := hM.pl
  subst hpl
  obtain ⟨k0, k1, k2⟩ := h
  have hk1 : k1 = (a : Int) := hM.f1
  subst hk1
  have ht0 : 0 ≤ k2 := hM.t0
  have HM := Aside0.mk hM
  have HC3 := Aside0.mk hC3
  have HSN := Aside0.mk (short_ok hM.chk2)
  have hk2 : k2 ≤ 1099511627776 := (has_hintV (check_vat hM.chk) hM.has).t1
  have hw : IntKind.i64.wrap (k2 + 1) = k2 + 1 := by rw [IntKind.wrap_i64]; omega
  clear hM hC3 h0 hn
  go_wp2_with fail
  refine (Where_any A m.length c m oid w3 rfl (Kd.C_below HR.out HB3.out) hc HS.out).mono ?_
  rintro e w4 ⟨rfl, hB⟩
  rw [HM.out.was]
  simp only [hintV]
  obtain ⟨w4', hw4⟩ : ∃ W, W = w4.alloc (Obj.cells #[Value.int IntKind.i64 k0, Value.int IntKind.i64 (a : Int), Value.int IntKind.i64 k2] 31) := ⟨_, rfl⟩
  obtain ⟨g14, hg14⟩ : ∃ g, g = w4.heap.size := ⟨_, rfl⟩
  have hB34 : Below w3.heap.size w3 w4' := by rw [hw4]; exact below_alloc hB _
  have HB4 := Aside0.mk (below_step HB3.out hB34)
  have HC4 := Aside0.mk (Kd.C_below HC3.out hB34)
  have HX4 : Aside0 (w4'.heap[g14]? = some (.cells #[.int .i64 k0, .int .i64 (a : Int), .int .i64 k2] 31 (0, 0))) := ⟨by rw [hw4, hg14]; exact heap_alloc_new _ _⟩
  clear hB hB34
  go_upto_region 8 with fail
  rw [← hw4, ← hg14]
  clear hw4 hg14
  go_wp2_with fail
  refine (Where_any A3 n.length c3 n oid w4' rfl HC4.out hc3 HSN.out).mono ?_
  rintro e w5 ⟨rfl, hB⟩
  rw [HM.out.now]
  simp only [hintV]
  obtain ⟨w5', hw5⟩ : ∃ W, W = w5.alloc (Obj.cells #[Value.int IntKind.i64 oid, Value.int IntKind.i64 (b : Int), Value.int IntKind.i64 (k2 + 1)] 31) := ⟨_, rfl⟩
  obtain ⟨g16, hg16⟩ : ∃ g, g = w5.heap.size := ⟨_, rfl⟩
  have hB45 : Below w4'.heap.size w4' w5' := by rw [hw5]; exact below_alloc hB _
  have HB5 := Aside0.mk (below_step HB4.out hB45)
  have HC5 := Aside0.mk (Kd.C_below HC4.out hB45)
  have HX5 := Aside0.mk (blk_below HX4.out hB45)
  have HY5 : Aside0 (w5'.heap[g16]? = some (.cells #[.int .i64 oid, .int .i64 (b : Int), .int .i64 (k2 + 1)] 31 (0, 0))) := ⟨by rw [hw5, hg16]; exact heap_alloc_new _ _⟩
  clear hB hB45 HB4 HC4 HX4 HB3 HC3 HB2
  go_upto_region 9 with fail
  rw [← hw5, ← hg16]
  clear hw5 hg16
  obtain ⟨x0, x1, x2, _, _, _⟩ := blk3 HX5.out
  obtain ⟨y0, y1, y2, _, _, _⟩ := blk3 HY5.out
  go_wp2_with fail
  clear x0 x1 x2 y0 y1 y2
  go_loopw [18] (fun u18 wr => ∃ i : Nat, u18 = .int .i64 (i : Int) ∧ i ≤ m.length ∧ Aside0 (Below w5'.heap.size w5' wr)) (fun u18 _ => m.length - (intOf u18).toNat)
  case atStart => exact ⟨0, rfl, Nat.zero_le _, ⟨Below.refl _ _⟩⟩
  case round =>
    obtain ⟨i, rfl, hi, HBR⟩ := hrel
    have HBW := Aside0.mk (below_step HB5.out HBR.out)
    have HX6 := Aside0.mk (blk_below HX5.out HBR.out)
    have HY6 := Aside0.mk (blk_below HY5.out HBR.out)
    by_cases hlt : i < m.length
    · have hd : decide (i < m.length) = true := decide_eq_true hlt
      go_wp2_with fail
      refine (Look_any A m.length c m (i : Int) oid wr rfl (Kd.C_below HR.out HBW.out) hc HS.out).mono ?_
      rintro e w6 ⟨rfl, hB⟩
      have hlk := HM.out.look hlt
      obtain ⟨lk, hlk2⟩ : ∃ L, L = lookF m (i : Int) oid := ⟨_, rfl⟩
      rw [← hlk2] at hlk ⊢
      obtain ⟨hh, is, cc⟩ := lk
      dsimp only at hlk ⊢
      have HLK := Aside0.mk hlk
      have HB6 := Aside0.mk (below_step HBR.out hB)
      have HX7 := Aside0.mk (blk_below HX6.out hB)
      have HY7 := Aside0.mk (blk_below HY6.out hB)
      clear hB hlk hlk2
      simp only [hintV]
      obtain ⟨w6', hw6⟩ : ∃ W, W = w6.alloc (Obj.cells #[Value.int IntKind.i64 hh.f0, Value.int IntKind.i64 hh.f1, Value.int IntKind.i64 hh.f2] 31) := ⟨_, rfl⟩
      obtain ⟨g19, hg19⟩ : ∃ g, g = w6.heap.size := ⟨_, rfl⟩
      have HB7 : Aside0 (Below w5'.heap.size w5' w6') := ⟨by rw [hw6]; exact below_alloc HB6.out _⟩
      have HX8 : Aside0 (w6'.heap[g14]? = some (.cells #[.int .i64 k0, .int .i64 (a : Int), .int .i64 k2] 31 (0, 0))) := ⟨by rw [hw6]; exact blk_alloc HX7.out _⟩
      have HY8 : Aside0 (w6'.heap[g16]? = some (.cells #[.int .i64 oid, .int .i64 (b : Int), .int .i64 (k2 + 1)] 31 (0, 0))) := ⟨by rw [hw6]; exact blk_alloc HY7.out _⟩
      have HZ8 : Aside0 (w6'.heap[g19]? = some (.cells #[.int .i64 hh.f0, .int .i64 hh.f1, .int .i64 hh.f2] 31 (0, 0))) := ⟨by rw [hw6, hg19]; exact heap_alloc_new _ _⟩
      go_upto_region 15 with fail
      rw [← hw6, ← hg19]
      clear hw6 hg19 HX6 HY6 HX7 HY7 HB6
      by_cases hcc : cc = 0
      · obtain ⟨l1, l2⟩ := HLK.out hcc
        subst hcc
        have l2' : (is == ((i : Int) == (a : Int))) = true := by rw [l2]; cases ((i : Int) == (a : Int)) <;> rfl
        have l1' : decide (k2 + 1 ≤ hh.f2) = false := decide_eq_false (by omega)
        obtain ⟨x0, x1, x2, _, _, _⟩ := blk3 HX8.out
        obtain ⟨y0, y1, y2, _, _, _⟩ := blk3 HY8.out
        obtain ⟨z0, z1, z2, _, _, _⟩ := blk3 HZ8.out
        clear l1 l2 HLK
        go_wp2_with fail
        go_roundw
        case measure => simp [intOf]; omega
        case rel => exact ⟨i + 1, by go_num, by omega, HB7⟩
      · have dcc : (cc == 0) = false := by rw [beq_eq_false_iff_ne]; exact hcc
        clear hcc HLK
        go_wp2_with fail
        go_roundw
        case measure => simp [intOf]; omega
        case rel => exact ⟨i + 1, by go_num, by omega, HB7⟩
    · have hd : decide (i < m.length) = false := decide_eq_false hlt
      obtain ⟨x0, x1, x2, _, _, _⟩ := blk3 HX6.out
      have HC6 := Aside0.mk (Kd.C_below HC5.out HBR.out)
      go_wp2_with fail
      refine (Follow_any A3 n.length c3 n (a : Int) oid wr rfl HC6.out hc3 HSN.out).mono ?_
      rintro e w6 ⟨v, rfl, hR, hB⟩
      have hfo := HM.out.follow
      dsimp only at hfo
      rw [hfo] at hR ⊢
      obtain ⟨U, cu, rfl⟩ := Kd.R_slice hR
      have HB6 := Aside0.mk (below_step HBW.out hB)
      have HC7 := Aside0.mk (Kd.C_below HC6.out hB)
      have HX7 := Aside0.mk (blk_below HX6.out hB)
      have HR6 := Aside0.mk hR
      clear hB hR hfo x0 x1 x2
      obtain ⟨x0, x1, x2, _, _, _⟩ := blk3 HX7.out
      go_wp2_with fail
      have hBa := below_alloc (Below.refl w6.heap.size w6) (Obj.cells #[Value.int IntKind.i64 (a : Int), Value.int IntKind.i64 (b : Int)] 3)
      have HSI := Aside0.mk (berylref17_SameInts.calls 4 U cu [(a : Int), (b : Int)] (some ⟨w6.heap.size, 0, none⟩) 2 [(a : Int), (b : Int)] true (w6.alloc (Obj.cells #[Value.int IntKind.i64 (a : Int), Value.int IntKind.i64 (b : Int)] 3)) (Kd.C_below (Kd.R_reads' HR6.out).2.2 hBa) (Kd.R_reads' HR6.out).2.1 (two_ints (heap_alloc_new _ _)) (by simp) (same_two _ _))
      clear hBa
      refine HSI.out.mono ?_
      rintro e wx ⟨rfl, ⟨nd, rfl⟩⟩
      obtain ⟨w7, hw7⟩ : ∃ W, W = (w6.alloc (Obj.cells #[Value.int IntKind.i64 (a : Int), Value.int IntKind.i64 (b : Int)] 3)).drewN nd := ⟨_, rfl⟩
      rw [← hw7]
      have hB67 : Below w6.heap.size w6 w7 := by rw [hw7]; exact pw_below_drewN (below_alloc (Below.refl _ _) _) nd
      have HB7 := Aside0.mk (below_step HB6.out hB67)
      have HC8 := Aside0.mk (Kd.C_below HC7.out hB67)
      clear hw7 hB67 HSI x0 x1 x2 HX7
      by_cases ho : other = oid
      · have dho : (other == oid) = true := by rw [beq_iff_eq]; exact ho
        clear ho
        go_wp2_with fail
        go_returns
        exact ⟨rfl, HB7.out⟩
      have dho : (other == oid) = false := by rw [beq_eq_false_iff_ne]; exact ho
      have hot := HM.out.others frm other ho
      clear ho
      go_wp2_with fail
      refine (Look_any A m.length c m frm other w7 rfl (Kd.C_below HR.out HB7.out) hc HS.out).mono ?_
      rintro e w8 ⟨rfl, hB⟩
      rw [← hot]
      obtain ⟨lk, hlk2⟩ : ∃ L, L = lookF n frm other := ⟨_, rfl⟩
      have HLK := Aside0.mk hlk2
      rw [← hlk2]
      obtain ⟨hh, is, cc⟩ := lk
      dsimp only
      simp only [hintV]
      obtain ⟨w8', hw8⟩ : ∃ W, W = w8.alloc (Obj.cells #[Value.int IntKind.i64 hh.f0, Value.int IntKind.i64 hh.f1, Value.int IntKind.i64 hh.f2] 31) := ⟨_, rfl⟩
      obtain ⟨g25, hg25⟩ : ∃ g, g = w8.heap.size := ⟨_, rfl⟩
      have hB78 : Below w7.heap.size w7 w8' := by rw [hw8]; exact below_alloc hB _
      have HB8 := Aside0.mk (below_step HB7.out hB78)
      have HC9 := Aside0.mk (Kd.C_below HC8.out hB78)
      have HZ8 : Aside0 (w8'.heap[g25]? = some (.cells #[.int .i64 hh.f0, .int .i64 hh.f1, .int .i64 hh.f2] 31 (0, 0))) := ⟨by rw [hw8, hg25]; exact heap_alloc_new _ _⟩
      clear hB hot hlk2 hB78
      go_upto_region 23 with fail
      rw [← hw8, ← hg25]
      clear hw8 hg25
      go_wp2_with fail
      refine (Look_any A3 n.length c3 n frm other w8' rfl HC9.out hc3 HSN.out).mono ?_
      rintro e w9 ⟨rfl, hB⟩
      rw [← HLK.out]
      dsimp only
      simp only [hintV]
      obtain ⟨w9', hw9⟩ : ∃ W, W = w9.alloc (Obj.cells #[Value.int IntKind.i64 hh.f0, Value.int IntKind.i64 hh.f1, Value.int IntKind.i64 hh.f2] 31) := ⟨_, rfl⟩
      obtain ⟨g28, hg28⟩ : ∃ g, g = w9.heap.size := ⟨_, rfl⟩
      have hB89 : Below w8'.heap.size w8' w9' := by rw [hw9]; exact below_alloc hB _
      have HB9 := Aside0.mk (below_step HB8.out hB89)
      have HZ9 := Aside0.mk (blk_below HZ8.out hB89)
      have HV9 : Aside0 (w9'.heap[g28]? = some (.cells #[.int .i64 hh.f0, .int .i64 hh.f1, .int .i64 hh.f2] 31 (0, 0))) := ⟨by rw [hw9, hg28]; exact heap_alloc_new _ _⟩
      have heq : ∀ W, (Op.equal 31 (.agg #[.int .i64 hh.f0, .int .i64 hh.f1, .int .i64 hh.f2]) (.agg #[.int .i64 hh.f0, .int .i64 hh.f1, .int .i64 hh.f2])).run Try.prog W = .ok true W := fun W => by rw [eq_hint hh hh W]; simp
      clear hB hB89
      go_upto_region 24 with fail
      rw [← hw9, ← hg28]
      clear hw9 hg28
      obtain ⟨z0, z1, z2, _, _, _⟩ := blk3 HZ9.out
      obtain ⟨v0, v1, v2, _, _, _⟩ := blk3 HV9.out
      go_wp2_with fail
      go_returns
      exact ⟨rfl, HB9.out⟩
end Go.Proofs.Ytjnceoohlcchnaa.Print

/-! A map, or hints, handed in: what the row says of it, as a list. -/
namespace Go.Proofs.Ytjnceoohlcchnaa.Print
open Go Go.ChangeShapes Go.WideShapes Go.ChangeAt Go.RowKit Go.Deep Go.Proofs.YtjnceoohlcchnaaW.PrintWords Go.Proofs.YtjnceoohlcchnaaW.PrintLast Go.Proofs.YtjnceoohlcchnaaW.PrintMore

theorem weights_all {H : Type} {P : Program} {e : TypeId} : ∀ {l : List (DataW H)} {d : DataW H}, d ∈ l → ∀ n ∈ d.weights P e, n ∈ DataW.weightsAll P e l
  | [], _, h, _, _ => by cases h
  | a :: l, d, h, n, hn => by
    rw [DataW.weightsAll, List.mem_append]
    rcases List.mem_cons.1 h with rfl | h
    · exact .inl hn
    · exact .inr (weights_all h n hn)
section
variable {H : Type} {enc : TypeId × Value → H} {W : World} {held : Bool}
set_option maxRecDepth 100000 in
/-- a row of structs of three fields of one cell each -/
theorem open_triples {t e : TypeId} {f0 f1 f2 : Field} {fuel : Nat} {A : Option Addr} {len cap : Nat} {d : DataW H} {ps : List MemPlace} (ht : Try.prog.underlying t = some (.slice e)) (he : Try.prog.underlying e = some (.struct #[f0, f1, f2]))
    (ce : Try.prog.cellsOf e = 3) (o0 : f0.offset = 0) (o1 : f1.offset = 1) (o2 : f2.offset = 2) (c0 : Try.prog.cellsOf f0.type = 1) (c1 : Try.prog.cellsOf f1.type = 1) (c2 : Try.prog.cellsOf f2.type = 1)
    (h : DataW.trod enc Try.prog W 0 (fun _ => true) held fuel t [.slice A len cap] = some (d, ps)) :
    (A = none ∧ len = 0 ∧ cap = 0) ∨ ∃ (a : Addr) (D : Nat → DataW H) (rest : List (DataW H)), A = some a ∧ len ≤ cap ∧ cap ≤ maxLen ∧ d = .slice ((List.range len).map D) rest ∧
      ∀ i, i < len → ∃ (k : Nat) (v0 v1 v2 : Value) (y0 y1 y2 : DataW H × List MemPlace), W.cell? (a.add (i * 3)) = some v0 ∧ W.cell? (a.add (i * 3 + 1)) = some v1 ∧ W.cell? (a.add (i * 3 + 2)) = some v2 ∧ D i = .agg [y0.1, y1.1, y2.1] ∧
        DataW.trod enc Try.prog W 0 (fun _ => true) held k f0.type [v0] = some y0 ∧ DataW.trod enc Try.prog W 0 (fun _ => true) held k f1.type [v1] = some y1 ∧ DataW.trod enc Try.prog W 0 (fun _ => true) held k f2.type [v2] = some y2 := by
  rcases open_slice ht h with ⟨hcs, _⟩ | ⟨a, l', c', m, n, D, Pl, hcs, _, hl, hm, hmm, hx, hel⟩
  · cases hcs
    exact .inl ⟨rfl, rfl, rfl⟩
  · cases hcs
    simp only [if_true] at hmm
    refine .inr ⟨a, D, _, rfl, hl, hm, (Prod.mk.inj hx).1, fun i hi => ?_⟩
    obtain ⟨cs', q1, q2⟩ := hel i (by omega)
    rw [ce] at q1
    obtain ⟨_, hlen, hcell⟩ := World.cells?_some q1
    obtain ⟨xs, k, _, hxy, _, hxl, hf⟩ := DataW.trod_struct he q2
    match xs, hxl, cs', hlen with
    | [y0, y1, y2], _, [v0, v1, v2], _ =>
      have g0 := hf 0 f0 rfl
      have g1 := hf 1 f1 rfl
      have g2 := hf 2 f2 rfl
      simp [o0, o1, o2, c0, c1, c2] at g0 g1 g2
      have e0 := hcell 0 (by omega)
      have e1 := hcell 1 (by omega)
      have e2 := hcell 2 (by omega)
      rw [Go.Deep.add_add] at e0 e1 e2
      simp only [Prod.mk.injEq] at hxy
      exact ⟨k, v0, v1, v2, y0, y1, y2, by simpa using e0, by simpa using e1, by simpa using e2, by simpa using hxy.1, g0, g1, g2⟩
set_option maxRecDepth 100000 in
theorem lift_hints {fuel : Nat} {a : Option Addr} {len cap : Nat} {d : DataW H} {ps : List MemPlace} (h : DataW.trod enc Try.prog W 0 (fun _ => true) held fuel 34 [.slice a len cap] = some (d, ps)) (hz : ∀ n ∈ d.weights Try.prog 34, n ≤ reachBytes) :
    ∃ l : List S31, l.length = len ∧ len ≤ cap ∧ Kd.C k31 W a len l ∧ len ≤ 140737488355328 := by
  rcases open_triples Try.underlying34 Try.underlying31 (by kernel_rfl) rfl rfl rfl (by kernel_rfl) (by kernel_rfl) (by kernel_rfl) h with ⟨rfl, rfl, rfl⟩ | ⟨ad, D, rest, rfl, hl, hm, rfl, hel⟩
  · exact ⟨[], rfl, Nat.le_refl _, Kd.C_nil _ _, by simp⟩
  · rw [DataW.weights, Try.underlying34] at hz
    have hsz := hz _ (List.mem_cons_self ..)
    rw [show Try.prog.bytesOf 31 = 24 from by kernel_rfl] at hsz
    simp at hsz
    have each : ∀ i, i < len → ∃ y : S31, W.cell? (ad.add (i * 3)) = some (.int .i64 y.f0) ∧ W.cell? (ad.add (i * 3 + 1)) = some (.int .i64 y.f1) ∧ W.cell? (ad.add (i * 3 + 2)) = some (.int .i64 y.f2) := by
      intro i hi
      obtain ⟨k, v0, v1, v2, y0, y1, y2, q0, q1, q2, _, g0, g1, g2⟩ := hel i hi
      obtain ⟨z0, e0, _, _⟩ := DataW.trod_int Try.underlying3 g0
      obtain ⟨z1, e1, _, _⟩ := DataW.trod_int Try.underlying3 g1
      obtain ⟨z2, e2, _, _⟩ := DataW.trod_int Try.underlying3 g2
      simp at e0 e1 e2
      subst e0 e1 e2
      exact ⟨⟨z0, z1, z2⟩, q0, q1, q2⟩
    haveI : Inhabited S31 := ⟨⟨0, 0, 0⟩⟩
    obtain ⟨y, hy⟩ := choose_lt each
    refine ⟨(List.range len).map y, by simp, hl, ⟨by simp, by unfold maxLen at hm; omega, fun _ => ⟨ad, rfl, fun j p hj => ?_⟩⟩, by unfold reachBytes at hsz; omega⟩
    rw [List.getElem?_map] at hj
    obtain ⟨i, hi, rfl⟩ := Option.map_eq_some_iff.1 hj
    obtain ⟨hjl, hji⟩ := List.getElem?_eq_some_iff.1 hi
    simp at hjl hji
    subst hji
    obtain ⟨e0, e1, e2⟩ := hy j hjl
    refine ⟨_, rfl, k31_mk W (y j), fun i u hu => ?_⟩
    match i, hu with
    | 0, hu => cases hu; exact e0
    | 1, hu => cases hu; exact e1
    | 2, hu => cases hu; exact e2
set_option maxRecDepth 100000 in
theorem lift_posts {a : Option Addr} {len cap : Nat} {d : DataW H} {ps : List MemPlace} (h : DataW.Trod enc Try.prog W 0 (fun _ => true) held 22 (.slice a len cap) d ps) (hz : ∀ n ∈ d.weights Try.prog 22, n ≤ reachBytes) :
    ∃ l : List S36, l.length = len ∧ len ≤ cap ∧ Kd.C k36 W a len l ∧ len ≤ 140737488355328 ∧ ∀ x ∈ l, x.f1.length ≤ 140737488355328 ∧ x.f2.length ≤ 140737488355328 := by
  obtain ⟨fuel, hf⟩ := h
  rcases open_triples Try.underlying22 Try.underlying36 (by kernel_rfl) rfl rfl rfl (by kernel_rfl) (by kernel_rfl) (by kernel_rfl) (show DataW.trod enc Try.prog W 0 (fun _ => true) held fuel 22 [.slice a len cap] = some (d, ps) from by simpa [Value.cells] using hf) with ⟨rfl, rfl, rfl⟩ | ⟨ad, D, rest, rfl, hl, hm, rfl, hel⟩
  · exact ⟨[], rfl, Nat.le_refl _, Kd.C_nil _ _, by simp, by simp⟩
  · rw [DataW.weights, Try.underlying22] at hz
    have hsz := hz _ (List.mem_cons_self ..)
    rw [show Try.prog.bytesOf 36 = 56 from by kernel_rfl] at hsz
    simp at hsz
    have each : ∀ i, i < len → ∃ y : S36 × (Option Addr × Nat) × (Option Addr × Nat), W.cell? (ad.add (i * 3)) = some (.bool y.1.f0) ∧ W.cell? (ad.add (i * 3 + 1)) = some (.slice y.2.1.1 y.1.f1.length y.2.1.2) ∧ W.cell? (ad.add (i * 3 + 2)) = some (.slice y.2.2.1 y.1.f2.length y.2.2.2) ∧
        y.1.f1.length ≤ y.2.1.2 ∧ Kd.C k31 W y.2.1.1 y.1.f1.length y.1.f1 ∧ y.1.f2.length ≤ y.2.2.2 ∧ Kd.C k31 W y.2.2.1 y.1.f2.length y.1.f2 ∧ y.1.f1.length ≤ 140737488355328 ∧ y.1.f2.length ≤ 140737488355328 := by
      intro i hi
      obtain ⟨k, v0, v1, v2, y0, y1, y2, q0, q1, q2, hD, g0, g1, g2⟩ := hel i hi
      obtain ⟨b, e0, _⟩ := DataW.trod_bool Try.underlying4 g0
      simp at e0
      subst e0
      have hin : ∀ n ∈ (D i).weights Try.prog 36, n ≤ reachBytes := fun n hn => hz n (List.mem_cons_of_mem _ (List.mem_append_left _ (weights_all (d := D i) (List.mem_map.2 ⟨i, List.mem_range.2 hi, rfl⟩) n hn)))
      rw [hD, DataW.weights, Try.underlying36] at hin
      have hin2 : ∀ n ∈ DataW.weightsEach Try.prog [4, 34, 34] [y0.1, y1.1, y2.1], n ≤ reachBytes := hin
      have hw1 : ∀ n ∈ y1.1.weights Try.prog 34, n ≤ reachBytes := fun n hn => hin2 n (by simp [DataW.weightsEach, hn])
      have hw2 : ∀ n ∈ y2.1.weights Try.prog 34, n ≤ reachBytes := fun n hn => hin2 n (by simp [DataW.weightsEach, hn])
      have s1 : ∃ A n c, v1 = .slice A n c := by
        rcases open_slice Try.underlying34 g1 with ⟨hcs, _⟩ | ⟨a, l', c', _, _, _, _, hcs, _⟩
        · cases hcs; exact ⟨_, _, _, rfl⟩
        · cases hcs; exact ⟨_, _, _, rfl⟩
      have s2 : ∃ A n c, v2 = .slice A n c := by
        rcases open_slice Try.underlying34 g2 with ⟨hcs, _⟩ | ⟨a, l', c', _, _, _, _, hcs, _⟩
        · cases hcs; exact ⟨_, _, _, rfl⟩
        · cases hcs; exact ⟨_, _, _, rfl⟩
      obtain ⟨A1, n1, c1, rfl⟩ := s1
      obtain ⟨A2, n2, c2, rfl⟩ := s2
      obtain ⟨l1, z1, b1, C1, w1⟩ := lift_hints (d := y1.1) (ps := y1.2) g1 hw1
      obtain ⟨l2, z2, b2, C2, w2⟩ := lift_hints (d := y2.1) (ps := y2.2) g2 hw2
      subst z1 z2
      exact ⟨(⟨b, l1, l2⟩, (A1, c1), (A2, c2)), q0, q1, q2, b1, C1, b2, C2, w1, w2⟩
    haveI : Inhabited (S36 × (Option Addr × Nat) × (Option Addr × Nat)) := ⟨(⟨false, [], []⟩, (none, 0), (none, 0))⟩
    obtain ⟨y, hy⟩ := choose_lt each
    refine ⟨(List.range len).map fun i => (y i).1, by simp, hl, ⟨by simp, by unfold maxLen at hm; omega, fun _ => ⟨ad, rfl, fun j p hj => ?_⟩⟩, by unfold reachBytes at hsz; omega, fun x hx => ?_⟩
    · rw [List.getElem?_map] at hj
      obtain ⟨i, hi, rfl⟩ := Option.map_eq_some_iff.1 hj
      obtain ⟨hjl, hji⟩ := List.getElem?_eq_some_iff.1 hi
      simp at hjl hji
      subst hji
      obtain ⟨e0, e1, e2, b1, C1, b2, C2, _, _⟩ := hy j hjl
      refine ⟨_, rfl, k36_mk W (y j).1 b1 C1 b2 C2, fun i u hu => ?_⟩
      match i, hu with
      | 0, hu => cases hu; exact e0
      | 1, hu => cases hu; exact e1
      | 2, hu => cases hu; exact e2
    · obtain ⟨i, hi, rfl⟩ := List.mem_map.1 hx
      have := hy i (List.mem_range.1 hi)
      exact this.2.2.2.2.2.2.2
end
end Go.Proofs.Ytjnceoohlcchnaa.Print

namespace Go.Proofs.Ytjnceoohlcchnaa.findMoved
open Go Go.ChangeShapes Go.WideShapes Go.ChangeAt Go.RowKit Go.Proofs.Ytjnceoohlcchnaa.Print
open Go.Proofs.YtjnceoohlcchnaaW.PrintWords
theorem own : ownKnob Try.prog.godebug = none := by kernel_rfl
theorem laidOut : laidOutB Try.prog = true := by kernel_rfl

theorem small {H : Type} {ts : List TypeId} {ds : List (DataW H)} (hsz : (DataW.weightsEach Try.prog ts ds).all (· ≤ reachBytes) = true) {j : Nat} {t : TypeId} {d : DataW H} (ht : ts[j]? = some t) (hd : ds[j]? = some d) : ∀ n ∈ d.weights Try.prog t, n ≤ reachBytes := by
  intro n hn
  have := List.all_eq_true.1 hsz _ (DataW.weights_mem_each ht hd n hn)
  simpa using this


set_option maxRecDepth 100000 in
theorem lifted (os : Os) (started : os.Started) (H : Type) (enc : TypeId × Value → H) :
    ReturnsInHanded {} Try.checked os 4 .any (Rows.findMovedSpec.pre6 enc Try.prog Try.f4 Rows.findMovedRow.domain false) (Rows.findMovedSpec.post enc Try.prog Try.f4 false true false false) := by
  refine returnsInHanded_of_change_sized (C := Try.checked) own started (by kernel_rfl) Try.func4
    (ChangeSpec.witness6 (enc := enc) (C := Try.checked) false ⟨#[], #[.slice none 0 0, .int .i64 0, .int .i64 0, .int .i64 0, .int .i64 0], []⟩ 8 (by kernel_rfl) (by kernel_rfl) (by kernel_rfl) (by kernel_rfl)) ?_
  intro W base args ds gs before hval0 hW hcnd hsz0 _
  have hsz : (DataW.weightsEach Try.prog (Try.f4.params.toList ++ Rows.findMovedSpec.plain.varTypes Try.prog) (ds ++ gs)).all (· ≤ reachBytes) = true := hsz0
  have hval : ∀ (j : Nat) t v, Try.f4.params[j]? = some t → args[j]? = some v → Value.okWide Try.prog W .any base t v := hval0
  have hW' := hW
  obtain ⟨p, q, hA0, hV, rfl, hfz, hnd⟩ := hW
  have hA : DataW.TrodAll enc Try.prog W 0 (fun _ => true) true Try.f4.params.toList args.toList ds p := hA0
  rw [Try.params4] at hA hval hsz
  obtain ⟨v0, vs0, d0, ds0, p0, q0, hargs, rfl, rfl, h0, r0⟩ := trodAll_cons hA
  obtain ⟨v1, vs1, d1, ds1, p1, q1, rfl, rfl, rfl, h1, r1⟩ := trodAll_cons r0
  obtain ⟨v2, vs2, d2, ds2, p2, q2, rfl, rfl, rfl, h2, r2⟩ := trodAll_cons r1
  obtain ⟨v3, vs3, d3, ds3, p3, q3, rfl, rfl, rfl, h3, r3⟩ := trodAll_cons r2
  obtain ⟨v4, vs4, d4, ds4, p4, q4, rfl, rfl, rfl, h4, r4⟩ := trodAll_cons r3
  obtain ⟨rfl, rfl, rfl⟩ := trodAll_nil r4
  obtain rfl : args = #[v0, v1, v2, v3, v4] := by cases args; simp_all
  obtain ⟨rfl, rfl⟩ := trodVars_none hV
  obtain ⟨a0, len0, cap0, rfl⟩ := okWide_slice Try.underlying22 (hval 0 22 v0 rfl rfl)
  obtain ⟨a1, rfl, rfl, rfl, w1⟩ := open_int Try.underlying3 (hval 1 3 v1 rfl rfl) h1
  obtain ⟨a2, rfl, rfl, rfl, w2⟩ := open_int Try.underlying3 (hval 2 3 v2 rfl rfl) h2
  obtain ⟨a3, rfl, rfl, rfl, w3⟩ := open_int Try.underlying3 (hval 3 3 v3 rfl rfl) h3
  obtain ⟨a4, rfl, rfl, rfl, w4⟩ := open_int Try.underlying3 (hval 4 3 v4 rfl rfl) h4
  have k0 := h0
  have lt0 : ∀ x ∈ p0, x.block < W.heap.size := by obtain ⟨m, hm⟩ := k0; exact DataW.trod_lt m _ _ _ hm
  obtain ⟨l0, e0, hc0, hr0, hz0, hw0⟩ := lift_posts h0 (small hsz (j := 0) rfl rfl)
  subst e0
  clear hA0 hval0 hsz0 hsz
  refine (moved_walk a0 cap0 l0 a1 a2 a3 a4 W hr0 hc0 hw0).mono fun e W' ⟨he, bel⟩ => ?_
  subst he
  exact ⟨_, rfl, _, _, _, [], _, [], hW', trodAll_mk1 (shut_bool Try.underlying4 _), (trodAll_cons_mk (Below.trod laidOut (by kernel_rfl) (of_decide_eq_true (by kernel_rfl)) k0 bel lt0) (trodAll_cons_mk (shut_int Try.underlying3 w1) (trodAll_cons_mk (shut_int Try.underlying3 w2) (trodAll_cons_mk (shut_int Try.underlying3 w3) (trodAll_cons_mk (shut_int Try.underlying3 w4) trodAll_mk0))))), rfl, bel.frame _, fun h => by cases h⟩
theorem over : Rows.findMovedRow.holds Try.pinned (OpenSpec.ofChange Rows.findMovedSpec) :=
  OpenClaim.holds_of_wide 4 Try.f4 rfl rfl rfl rfl rfl rfl rfl ⟨rfl, rfl, rfl, rfl, rfl⟩ rfl rfl rfl rfl rfl (by kernel_rfl) Try.func4 (by kernel_rfl)
    (of_decide_eq_true (by kernel_rfl)) (by unfold Func.isWrapper; first | (rw [if_pos (by decide +kernel)]; kernel_rfl) | (rw [if_neg (by decide +kernel)]; exact ⟨rfl, rfl⟩))
    (fun os started H enc _ => lifted os started H enc)
theorem proved : Rows.FindMovedSaid := over
#print axioms proved
end Go.Proofs.Ytjnceoohlcchnaa.findMoved
namespace Go.Proofs.Ytjnceoohlcchnaa
/-- The row, under a short name, for the claim. -/
theorem findMoved_holds : Rows.FindMovedSaid := findMoved.proved
end Go.Proofs.Ytjnceoohlcchnaa
