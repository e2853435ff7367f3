/- The reference's checks, new maps and equality, and that they are the map's own: contracts, whatever the input. -/
import Derived.Test.YtjnceoohlcchnaaRB
import Derived.Test.YtjnceoohlcchnaaRJ
import Derived.Test.YtjnceoohlcchnaaR3
import Derived.Deep.RegionHeld3
import Derived.Test.YtjnceoohlcchnaaR0
import Derived.Test.YtjnceoohlcchnaaRH
import Derived.Test.YtjnceoohlcchnaaRI
set_option linter.unusedVariables false
set_option linter.unusedSimpArgs false
/-! The reference's small functions on lists of hints. -/
namespace Go.Proofs.Ytjnceoohlcchnaa.Print
open Go Go.RowKit Go.Deep Go.Proofs.YtjnceoohlcchnaaW.PrintWords Go.Proofs.YtjnceoohlcchnaaW.PrintLast Go.Proofs.YtjnceoohlcchnaaW.PrintMore

/-- the first index of an object, or how many there are -/
def rAtI (oid : Int) : List S31 → Nat
  | [] => 0
  | h :: l => if h.f0 = oid then 0 else rAtI oid l + 1
theorem rAtI_le (oid : Int) : ∀ l : List S31, rAtI oid l ≤ l.length
  | [] => Nat.le_refl _
  | h :: l => by
    unfold rAtI
    have := rAtI_le oid l
    split
    · exact Nat.zero_le _
    · rw [List.length_cons]; omega
def rAt (l : List S31) (oid : Int) : Int := if rAtI oid l < l.length then (rAtI oid l : Int) else -1
theorem rat_l0 (l : List S31) (oid : Int) (hl : l.length ≤ 9223372036854775807) : ∀ (m i k : Nat), i + m = l.length → m < k → berylref17_at.l0 k l oid (i : Int) = some (if rAtI oid (l.drop i) + i < l.length then ((rAtI oid (l.drop i) + i : Nat) : Int) else -1) := by
  intro m
  induction m with
  | zero =>
    intro i k hi hk
    obtain ⟨k, rfl⟩ : ∃ j, k = j + 1 := ⟨k - 1, by omega⟩
    rw [berylref17_at.l0, if_neg (by omega), if_neg (by omega)]
  | succ m ih =>
    intro i k hi hk
    obtain ⟨k, rfl⟩ : ∃ j, k = j + 1 := ⟨k - 1, by omega⟩
    have hlt : i < l.length := by omega
    have ih2 := ih (i + 1) k (by omega) (by omega)
    rw [berylref17_at.l0, if_pos (by omega), if_pos (by omega), rdH l i hlt, show wrap64 ((i : Int) + 1) = ((i + 1 : Nat) : Int) by unfold wrap64; omega, ih2, List.drop_eq_getElem_cons hlt, rAtI]
    by_cases c : l[i].f0 = oid
    · rw [if_pos c, if_pos c, if_pos (by omega), Nat.zero_add]
    · rw [if_neg c, if_neg c, show rAtI oid (l.drop (i + 1)) + 1 + i = rAtI oid (l.drop (i + 1)) + (i + 1) by omega]
theorem rat_f (l : List S31) (oid : Int) (hl : l.length ≤ 9223372036854775807) : berylref17_at.f (l.length + 1) l oid = some (rAt l oid) := by
  unfold berylref17_at.f rAt
  have := rat_l0 l oid hl l.length 0 (l.length + 1) (by omega) (by omega)
  rw [List.drop_zero] at this
  exact this
theorem rat_any (A : Option Addr) (n c : Nat) (l : List S31) (oid : Int) (w : World) (hn : n = l.length) (hr : Kd.C k31 w A l.length l) (hc : n ≤ c) (hl : l.length ≤ 1000000000000) :
    Calls Try.prog 73 #[.slice A n c, .int .i64 oid] w fun e w' => e = .returned (.int .i64 (rAt l oid)) ∧ Below w.heap.size w w' := by
  subst hn
  refine (berylref17_at.calls (l.length + 1) A c l oid (rAt l oid) w hr hc (rat_f l oid (by omega))).mono ?_
  rintro e w' ⟨rfl, ⟨nd, rfl⟩⟩
  exact ⟨rfl, pw_below_drewN (Below.refl _ _) nd⟩
/-- what increases, from 1 on -/
def rIncR : Option Int → List S31 → Bool
  | _, [] => true
  | last, h :: l => decide (1 ≤ h.f0) && (match last with | none => true | some p => decide (p < h.f0)) && rIncR (some h.f0) l
theorem rIncR_nil (o : Option Int) : rIncR o [] = true := by cases o <;> rfl
theorem rIncR_cons (last : Option Int) (h : S31) (l : List S31) : rIncR last (h :: l) = (decide (1 ≤ h.f0) && (match last with | none => true | some q => decide (q < h.f0)) && rIncR (some h.f0) l) := by cases last <;> rfl
theorem rinc_l0 (l : List S31) (hl : l.length ≤ 9223372036854775807) : ∀ (m i k : Nat), i + m = l.length → m < k → berylref17_increasing.l0 k l (i : Int) = some (rIncR (lastOf l i) (l.drop i)) := by
  intro m
  induction m with
  | zero =>
    intro i k hi hk
    obtain ⟨k, rfl⟩ : ∃ j, k = j + 1 := ⟨k - 1, by omega⟩
    rw [berylref17_increasing.l0, if_neg (by omega), List.drop_of_length_le (by omega), rIncR_nil]
  | succ m ih =>
    intro i k hi hk
    obtain ⟨k, rfl⟩ : ∃ j, k = j + 1 := ⟨k - 1, by omega⟩
    have hlt : i < l.length := by omega
    have ih2 := ih (i + 1) k (by omega) (by omega)
    rw [last_succ l i hlt] at ih2
    rw [berylref17_increasing.l0, if_pos (by omega), if_pos (by omega), rdH l i hlt, show wrap64 ((i : Int) + 1) = ((i + 1 : Nat) : Int) by unfold wrap64; omega, ih2, List.drop_eq_getElem_cons hlt, rIncR_cons]
    obtain ⟨h, hh⟩ : ∃ h, h = l[i] := ⟨_, rfl⟩
    rw [← hh]
    clear ih2 ih
    obtain ⟨r, hr⟩ : ∃ r, r = rIncR (some h.f0) (l.drop (i + 1)) := ⟨_, rfl⟩
    rw [← hr]
    by_cases b1 : h.f0 < 1
    · rw [if_pos b1, decide_eq_false (by omega : ¬ 1 ≤ h.f0)]
      simp
    rw [if_neg b1, decide_eq_true (by omega : 1 ≤ h.f0), Bool.true_and]
    by_cases hi0 : i = 0
    · subst hi0
      rw [if_neg (by omega)]
      simp [lastOf]
    · obtain ⟨j, rfl⟩ : ∃ j, i = j + 1 := ⟨i - 1, by omega⟩
      have hj : j < l.length := by omega
      rw [if_pos (by omega), show wrap64 (((j + 1 : Nat) : Int) - 1) = (j : Int) by unfold wrap64; omega, if_pos (by omega), if_pos (by omega), rdH l j hj, last_succ l j hj]
      by_cases b2 : l[j].f0 ≥ h.f0
      · rw [if_pos b2]
        simp only
        rw [decide_eq_false (by omega : ¬ l[j].f0 < h.f0)]
        simp
      · rw [if_neg b2]
        simp only
        rw [decide_eq_true (by omega : l[j].f0 < h.f0), Bool.true_and]
theorem rinc_any (A : Option Addr) (n c : Nat) (l : List S31) (w : World) (hn : n = l.length) (hr : Kd.C k31 w A l.length l) (hc : n ≤ c) (hl : l.length ≤ 1000000000000) :
    Calls Try.prog 111 #[.slice A n c] w fun e w' => e = .returned (.bool (rIncR none l)) ∧ Below w.heap.size w w' := by
  subst hn
  refine (berylref17_increasing.calls (l.length + 1) A c l (rIncR none l) w hr hc (by unfold berylref17_increasing.f; exact rinc_l0 l (by omega) l.length 0 _ (by omega) (by omega))).mono ?_
  rintro e w' ⟨rfl, ⟨nd, rfl⟩⟩
  exact ⟨rfl, pw_below_drewN (Below.refl _ _) nd⟩
def rPl (p : Int) (h : S31) : Bool := decide (0 ≤ h.f1 ∧ h.f1 < p) && decide (0 ≤ h.f2 ∧ h.f2 ≤ 1099511627776)
theorem rpl_l0 (l : List S31) (p : Int) (hl : l.length ≤ 9223372036854775807) : ∀ (m i k : Nat), i + m = l.length → m < k → berylref17_placed.l0 k l p (i : Int) = some ((l.drop i).all (rPl p)) := by
  intro m
  induction m with
  | zero =>
    intro i k hi hk
    obtain ⟨k, rfl⟩ : ∃ j, k = j + 1 := ⟨k - 1, by omega⟩
    rw [berylref17_placed.l0, if_neg (by omega), List.drop_of_length_le (by omega)]; rfl
  | succ m ih =>
    intro i k hi hk
    obtain ⟨k, rfl⟩ : ∃ j, k = j + 1 := ⟨k - 1, by omega⟩
    have hlt : i < l.length := by omega
    have ih2 := ih (i + 1) k (by omega) (by omega)
    rw [berylref17_placed.l0, if_pos (by omega), if_pos (by omega), rdH l i hlt, show wrap64 ((i : Int) + 1) = ((i + 1 : Nat) : Int) by unfold wrap64; omega, ih2, List.drop_eq_getElem_cons hlt, List.all_cons]
    obtain ⟨h, hh⟩ : ∃ h, h = l[i] := ⟨_, rfl⟩
    rw [← hh]
    unfold rPl
    by_cases a3 : h.f1 < 0
    · rw [if_pos a3, decide_eq_false (by omega)]; rfl
    rw [if_neg a3]
    by_cases a4 : h.f1 ≥ p
    · rw [if_pos a4, decide_eq_false (by omega)]; rfl
    rw [if_neg a4, decide_eq_true (by omega : 0 ≤ h.f1 ∧ h.f1 < p), Bool.true_and]
    by_cases a1 : h.f2 < 0
    · rw [if_pos a1, decide_eq_false (by omega)]; rfl
    rw [if_neg a1]
    by_cases a2 : h.f2 > 1099511627776
    · rw [if_pos a2, decide_eq_false (by omega)]; rfl
    rw [if_neg a2, decide_eq_true (by omega : 0 ≤ h.f2 ∧ h.f2 ≤ 1099511627776), Bool.true_and]
theorem rpl_any (A : Option Addr) (n c : Nat) (l : List S31) (p : Int) (w : World) (hn : n = l.length) (hr : Kd.C k31 w A l.length l) (hc : n ≤ c) (hl : l.length ≤ 1000000000000) :
    Calls Try.prog 112 #[.slice A n c, .int .i64 p] w fun e w' => e = .returned (.bool (l.all (rPl p))) ∧ Below w.heap.size w w' := by
  subst hn
  refine (berylref17_placed.calls (l.length + 1) A c l p (l.all (rPl p)) w hr hc (by unfold berylref17_placed.f; have := rpl_l0 l p (by omega) l.length 0 (l.length + 1) (by omega) (by omega); rw [List.drop_zero] at this; exact this)).mono ?_
  rintro e w' ⟨rfl, ⟨nd, rfl⟩⟩
  exact ⟨rfl, pw_below_drewN (Below.refl _ _) nd⟩
/-- both: a list as it must be -/
theorem listR_is (p : Int) : ∀ (l : List S31) (o : Option Int), listR p o l = (rIncR o l && l.all (rPl p))
  | [], o => by rw [listR_nil, rIncR_nil]; rfl
  | h :: l, o => by
    rw [listR_cons, rIncR_cons, listR_is p l, List.all_cons]
    unfold rPl
    generalize decide (1 ≤ h.f0) = b1
    generalize decide (0 ≤ h.f2 ∧ h.f2 ≤ 1099511627776) = b2
    generalize decide (0 ≤ h.f1 ∧ h.f1 < p) = b3
    generalize rIncR (some h.f0) l = b4
    cases o with
    | none => cases b1 <;> cases b2 <;> cases b3 <;> cases b4 <;> simp
    | some q =>
      simp only
      generalize decide (q < h.f0) = b5
      cases b1 <;> cases b2 <;> cases b3 <;> cases b4 <;> cases b5 <;> simp
def rAgree (a b : S31) : Bool := (a.f0 != b.f0) || ((a.f2 != b.f2) || (a.f1 == b.f1))
set_option maxRecDepth 100000 in
theorem ragree_any (a b : S31) (w : World) : Calls Try.prog 113 #[.agg #[.int .i64 a.f0, .int .i64 a.f1, .int .i64 a.f2], .agg #[.int .i64 b.f0, .int .i64 b.f1, .int .i64 b.f2]] w fun e w' => e = .returned (.bool (rAgree a b)) ∧ Below w.heap.size w w' := by
  obtain ⟨a0, a1, a2⟩ := a
  obtain ⟨b0, b1, b2⟩ := b
  dsimp only
  go_enter Try.func113, Try.ntmps113
  go_upto_region 1 with fail
  obtain ⟨gg, hgg⟩ : ∃ g, g = w.heap.size := ⟨_, rfl⟩
  obtain ⟨wg, hwg⟩ : ∃ W, W = w.alloc (Obj.cells #[Value.int IntKind.i64 a0, Value.int IntKind.i64 a1, Value.int IntKind.i64 a2] 31) := ⟨_, rfl⟩
  rw [← hwg]
  obtain ⟨gh, hgh⟩ : ∃ g, g = w.heap.size + 1 := ⟨_, rfl⟩
  obtain ⟨w1, hw1⟩ : ∃ W, W = wg.alloc (Obj.cells #[Value.int IntKind.i64 b0, Value.int IntKind.i64 b1, Value.int IntKind.i64 b2] 31) := ⟨_, rfl⟩
  rw [← hw1, ← hgh, ← hgg]
  have hBg : Below w.heap.size w wg := by rw [hwg]; exact below_alloc (Below.refl _ _) _
  have hBh : Below wg.heap.size wg w1 := by rw [hw1]; exact below_alloc (Below.refl _ _) _
  have HB1 := Aside0.mk (below_step hBg hBh)
  have HG : Aside0 (w1.heap[gg]? = some (.cells #[.int .i64 a0, .int .i64 a1, .int .i64 a2] 31 (0, 0))) := ⟨blk_below (by rw [hwg, hgg]; exact heap_alloc_new _ _) hBh⟩
  have HH : Aside0 (w1.heap[gh]? = some (.cells #[.int .i64 b0, .int .i64 b1, .int .i64 b2] 31 (0, 0))) := ⟨by rw [hw1, hgh, show w.heap.size + 1 = wg.heap.size by rw [hwg]; exact (Array.size_push (xs := w.heap) _).symm]; exact heap_alloc_new _ _⟩
  clear hwg hw1 hgg hgh hBg hBh
  obtain ⟨k0, k1, k2, _, _, _⟩ := blk3 HG.out
  obtain ⟨m0, m1, m2, _, _, _⟩ := blk3 HH.out
  by_cases c0 : a0 = b0
  rotate_left
  · have d : (a0 != b0) = true := bne_iff_ne.2 c0
    have HV : Aside0 (rAgree ⟨a0, a1, a2⟩ ⟨b0, b1, b2⟩ = true) := ⟨by unfold rAgree; dsimp only; rw [d]; rfl⟩
    clear c0
    go_wp2_with fail
    go_returns
    exact ⟨by rw [HV.out]; rfl, HB1.out⟩
  subst c0
  by_cases c2 : a2 = b2
  rotate_left
  · have d : (a2 != b2) = true := bne_iff_ne.2 c2
    have HV : Aside0 (rAgree ⟨a0, a1, a2⟩ ⟨a0, b1, b2⟩ = true) := ⟨by unfold rAgree; dsimp only; rw [d]; simp⟩
    clear c2
    go_wp2_with fail
    go_returns
    exact ⟨by rw [HV.out]; rfl, HB1.out⟩
  subst c2
  have HV : Aside0 (rAgree ⟨a0, a1, a2⟩ ⟨a0, b1, a2⟩ = (a1 == b1)) := ⟨by unfold rAgree; dsimp only; simp⟩
  go_wp2_with fail
  go_returns
  exact ⟨by rw [HV.out]; rfl, HB1.out⟩
end Go.Proofs.Ytjnceoohlcchnaa.Print

/-! The reference: what a place has is right, but for other places. -/
namespace Go.Proofs.Ytjnceoohlcchnaa.Print
open Go Go.RowKit Go.Deep Go.Proofs.YtjnceoohlcchnaaW.PrintWords Go.Proofs.YtjnceoohlcchnaaW.PrintLast Go.Proofs.YtjnceoohlcchnaaW.PrintMore

def rHere (i : Int) (x : S36) (h : S31) : Bool := (h.f1 == i) && decide (rAt x.f2 h.f0 < 0)
def rAlone (p i : Int) (x : S36) : Bool :=
  decide (x.f1.length ≤ 4000) && (decide (x.f2.length ≤ 4000) && (rIncR none x.f1 && (rIncR none x.f2 && (x.f1.all (rPl p) && (x.f2.all (rPl p) && ((x.f0 || decide (x.f1.length + x.f2.length = 0)) && x.f1.all (rHere i x)))))))
set_option maxRecDepth 100000 in
set_option maxHeartbeats 4000000 in
theorem ralone_any (A : Option Addr) (n c : Nat) (m : List S36) (i : Nat) (x : S36) (w : World) (hn : n = m.length) (hi : i < m.length) (hx : m[i]? = some x) (hr : Kd.C k36 w A m.length m) (hc : n ≤ c) (hs : Short m) :
    Calls Try.prog 101 #[.slice A n c, .int .i64 (i : Int)] w fun e w' => e = .returned (.bool (rAlone m.length i x)) ∧ Below w.heap.size w w' := by
  subst hn
  obtain ⟨ad, x2, A1, c1, A2, c2, rfl, hx2, p0, p1, p2, l1, g1, l2, g2⟩ := post_at hr i hi
  rw [hx] at hx2
  obtain rfl := Option.some.inj hx2
  have HX := Aside0.mk hx
  have HSX := Aside0.mk (hs.2 x (List.mem_of_getElem? hx))
  have HC1 := Aside0.mk g1
  have HC2 := Aside0.mk g2
  have hm6 := hs.1
  clear hx hx2 hr g1 g2 hs
  have hd0 : decide (i < m.length) = true := decide_eq_true hi
  have huP := Try.underlying36
  go_enter Try.func101, Try.ntmps101
  go_upto_region 2 with fail
  obtain ⟨gp, hgp⟩ : ∃ g, g = w.heap.size := ⟨_, rfl⟩
  obtain ⟨w1, hw1⟩ : ∃ W, W = w.alloc (Obj.cells #[.bool x.f0, .slice A1 x.f1.length c1, .slice A2 x.f2.length c2] 36) := ⟨_, rfl⟩
  rw [← hw1, ← hgp]
  have HB1 : Aside0 (Below w.heap.size w w1) := ⟨by rw [hw1]; exact below_alloc (Below.refl _ _) _⟩
  have HQ1 : Aside0 (w1.heap[gp]? = some (.cells #[.bool x.f0, .slice A1 x.f1.length c1, .slice A2 x.f2.length c2] 36 (0, 0))) := ⟨by rw [hw1, hgp]; exact heap_alloc_new _ _⟩
  clear hw1 hgp p0 p1 p2 hi hd0
  obtain ⟨q0, q1, q2, _, _, _⟩ := blk3 HQ1.out
  by_cases a1 : x.f1.length ≤ 4000
  rotate_left
  · have HV : Aside0 (rAlone m.length i x = false) := ⟨by unfold rAlone; rw [decide_eq_false a1]; rfl⟩
    have d1 : decide ((4000 : Int) < (x.f1.length : Int)) = true := decide_eq_true (by omega)
    clear a1
    go_wp2_with fail
    go_returns
    exact ⟨by rw [HV.out]; rfl, HB1.out⟩
  have d1 : decide ((4000 : Int) < (x.f1.length : Int)) = false := decide_eq_false (by omega)
  by_cases a2 : x.f2.length ≤ 4000
  rotate_left
  · have HV : Aside0 (rAlone m.length i x = false) := ⟨by unfold rAlone; rw [decide_eq_false a2]; simp⟩
    have d2 : decide ((4000 : Int) < (x.f2.length : Int)) = true := decide_eq_true (by omega)
    clear a1 a2
    go_wp2_with fail
    go_returns
    exact ⟨by rw [HV.out]; rfl, HB1.out⟩
  have d2 : decide ((4000 : Int) < (x.f2.length : Int)) = false := decide_eq_false (by omega)
  have HV0 : Aside0 (rAlone m.length i x = (rIncR none x.f1 && (rIncR none x.f2 && (x.f1.all (rPl m.length) && (x.f2.all (rPl m.length) && ((x.f0 || decide (x.f1.length + x.f2.length = 0)) && x.f1.all (rHere i x))))))) := ⟨by unfold rAlone; rw [decide_eq_true a1, decide_eq_true a2]; rfl⟩
  go_wp2_with fail
  refine (rinc_any A1 x.f1.length c1 x.f1 w1 rfl (Kd.C_below HC1.out HB1.out) l1 HSX.out.1).mono ?_
  rintro e w2 ⟨rfl, hB⟩
  have HB2 := Aside0.mk (below_step HB1.out hB)
  have HQ2 := Aside0.mk (blk_below HQ1.out hB)
  clear hB HB1 HQ1 q0 q1 q2
  obtain ⟨q0, q1, q2, _, _, _⟩ := blk3 HQ2.out
  obtain ⟨b1, hb1⟩ : ∃ b, b = rIncR none x.f1 := ⟨_, rfl⟩
  rw [← hb1] at HV0 ⊢
  clear hb1
  cases b1 with
  | false =>
    go_wp2_with fail
    go_returns
    exact ⟨by rw [HV0.out]; rfl, HB2.out⟩
  | true =>
  have HV1 : Aside0 (rAlone m.length i x = (rIncR none x.f2 && (x.f1.all (rPl m.length) && (x.f2.all (rPl m.length) && ((x.f0 || decide (x.f1.length + x.f2.length = 0)) && x.f1.all (rHere i x)))))) := ⟨HV0.out⟩
  clear HV0
  go_wp2_with fail
  refine (rinc_any A2 x.f2.length c2 x.f2 w2 rfl (Kd.C_below HC2.out HB2.out) l2 HSX.out.2).mono ?_
  rintro e w3 ⟨rfl, hB⟩
  have HB3 := Aside0.mk (below_step HB2.out hB)
  have HQ3 := Aside0.mk (blk_below HQ2.out hB)
  clear hB HB2 HQ2 q0 q1 q2
  obtain ⟨q0, q1, q2, _, _, _⟩ := blk3 HQ3.out
  obtain ⟨b2, hb2⟩ : ∃ b, b = rIncR none x.f2 := ⟨_, rfl⟩
  rw [← hb2] at HV1 ⊢
  clear hb2
  cases b2 with
  | false =>
    go_wp2_with fail
    go_returns
    exact ⟨by rw [HV1.out]; rfl, HB3.out⟩
  | true =>
  have HV2 : Aside0 (rAlone m.length i x = (x.f1.all (rPl m.length) && (x.f2.all (rPl m.length) && ((x.f0 || decide (x.f1.length + x.f2.length = 0)) && x.f1.all (rHere i x))))) := ⟨HV1.out⟩
  clear HV1
  go_wp2_with fail
  refine (rpl_any A1 x.f1.length c1 x.f1 m.length w3 rfl (Kd.C_below HC1.out HB3.out) l1 HSX.out.1).mono ?_
  rintro e w4 ⟨rfl, hB⟩
  have HB4 := Aside0.mk (below_step HB3.out hB)
  have HQ4 := Aside0.mk (blk_below HQ3.out hB)
  clear hB HB3 HQ3 q0 q1 q2
  obtain ⟨q0, q1, q2, _, _, _⟩ := blk3 HQ4.out
  obtain ⟨b3, hb3⟩ : ∃ b, b = x.f1.all (rPl m.length) := ⟨_, rfl⟩
  rw [← hb3] at HV2 ⊢
  clear hb3
  cases b3 with
  | false =>
    go_wp2_with fail
    go_returns
    exact ⟨by rw [HV2.out]; rfl, HB4.out⟩
  | true =>
  have HV3 : Aside0 (rAlone m.length i x = (x.f2.all (rPl m.length) && ((x.f0 || decide (x.f1.length + x.f2.length = 0)) && x.f1.all (rHere i x)))) := ⟨HV2.out⟩
  clear HV2
  go_wp2_with fail
  refine (rpl_any A2 x.f2.length c2 x.f2 m.length w4 rfl (Kd.C_below HC2.out HB4.out) l2 HSX.out.2).mono ?_
  rintro e w5 ⟨rfl, hB⟩
  have HB5 := Aside0.mk (below_step HB4.out hB)
  have HQ5 := Aside0.mk (blk_below HQ4.out hB)
  clear hB HB4 HQ4 q0 q1 q2
  obtain ⟨q0, q1, q2, _, _, _⟩ := blk3 HQ5.out
  obtain ⟨b4, hb4⟩ : ∃ b, b = x.f2.all (rPl m.length) := ⟨_, rfl⟩
  rw [← hb4] at HV3 ⊢
  clear hb4
  cases b4 with
  | false =>
    go_wp2_with fail
    go_returns
    exact ⟨by rw [HV3.out]; rfl, HB5.out⟩
  | true =>
  have HV4 : Aside0 (rAlone m.length i x = ((x.f0 || decide (x.f1.length + x.f2.length = 0)) && x.f1.all (rHere i x))) := ⟨HV3.out⟩
  clear HV3
  obtain ⟨u, hu⟩ : ∃ u, u = x.f0 := ⟨_, rfl⟩
  rw [← hu] at q0 HV4 HQ5
  clear hu
  have hwl : IntKind.i64.wrap ((x.f1.length : Int) + (x.f2.length : Int)) = (x.f1.length : Int) + (x.f2.length : Int) := by rw [IntKind.wrap_i64]; omega
  have HV5 : Aside0 ((u = false ∧ 0 < x.f1.length + x.f2.length) ∧ rAlone m.length i x = false ∨ rAlone m.length i x = x.f1.all (rHere i x) ∧ (u = true ∨ (u = false ∧ x.f1.length + x.f2.length = 0))) := ⟨by
    rw [HV4.out]
    cases u with
    | true => right; exact ⟨by rw [Bool.true_or, Bool.true_and], .inl rfl⟩
    | false =>
      by_cases c : x.f1.length + x.f2.length = 0
      · right; exact ⟨by rw [decide_eq_true c]; rfl, .inr ⟨rfl, c⟩⟩
      · left; exact ⟨⟨rfl, by omega⟩, by rw [decide_eq_false c]; rfl⟩⟩
  clear HV4
  rcases HV5.out with ⟨⟨rfl, c⟩, HV⟩ | ⟨HV, c⟩
  · have d3 : decide ((0 : Int) < (x.f1.length : Int) + (x.f2.length : Int)) = true := decide_eq_true (by omega)
    replace HV := Aside0.mk HV
    clear c HV5
    go_wp2_with fail
    go_returns
    exact ⟨by rw [HV.out]; rfl, HB5.out⟩
  replace HV := Aside0.mk HV
  clear HV5
  go_upto_region 4 with fail
  go_cut [61] (fun u61 wx => u61 = .bool false ∧ wx = w5)
  case first =>
    rcases c with rfl | ⟨rfl, c⟩
    · go_wp2_with fail
      go_meet
      case rel => exact ⟨rfl, by first | rfl | trivial⟩
    · have d3 : decide ((0 : Int) < (x.f1.length : Int) + (x.f2.length : Int)) = false := decide_eq_false (by omega)
      clear c
      go_wp2_with fail
      go_meet
      case rel => exact ⟨by first | rfl | simp [d3], by first | rfl | trivial⟩
  case rest =>
  obtain ⟨rfl, hw5⟩ := hcut
  rw [hw5]
  clear hw5 c hwl
  go_wp2_with fail
  go_loopw [6] (fun u6 wr => ∃ k : Nat, u6 = .int .i64 (k : Int) ∧ k ≤ x.f1.length ∧ Aside0 (x.f1.all (rHere i x) = (x.f1.drop k).all (rHere i x)) ∧ Aside0 (Below w5.heap.size w5 wr)) (fun u6 _ => x.f1.length - (intOf u6).toNat)
  case atStart => exact ⟨0, rfl, Nat.zero_le _, ⟨rfl⟩, ⟨Below.refl _ _⟩⟩
  case round =>
    obtain ⟨k, rfl, hk, HE, HBR⟩ := hrel
    have HQR := Aside0.mk (blk_below HQ5.out HBR.out)
    clear q0 q1 q2
    obtain ⟨q0, q1, q2, _, _, _⟩ := blk3 HQR.out
    by_cases hlt : k < x.f1.length
    rotate_left
    · have dk : decide (k < x.f1.length) = false := decide_eq_false hlt
      have HT : Aside0 (rAlone m.length i x = true) := ⟨by rw [HV.out, HE.out, List.drop_of_length_le (by omega)]; rfl⟩
      go_wp2_with fail
      go_returns
      exact ⟨by rw [HT.out]; rfl, below_step HB5.out HBR.out⟩
    have dk : decide (k < x.f1.length) = true := decide_eq_true hlt
    obtain ⟨a1d, h, rfl, hh, r0, r1, _⟩ := hint_at (Kd.C_below HC1.out (below_step HB5.out HBR.out)) k hlt
    have HST : Aside0 (rAlone m.length i x = (rHere i x h && (x.f1.drop (k + 1)).all (rHere i x)) ∧ (rHere i x h = true → x.f1.all (rHere i x) = (x.f1.drop (k + 1)).all (rHere i x))) := ⟨by
      obtain ⟨h1, h2⟩ := List.getElem?_eq_some_iff.1 hh
      have e : (x.f1.drop k).all (rHere i x) = (rHere i x h && (x.f1.drop (k + 1)).all (rHere i x)) := by rw [List.drop_eq_getElem_cons h1, h2, List.all_cons]
      exact ⟨by rw [HV.out, HE.out, e], fun q => by rw [HE.out, e, q, Bool.true_and]⟩⟩
    have HSB : Aside0 (∀ w', Below wr.heap.size wr w' → (w'.cell? ⟨gp, 1, none⟩ = some (.slice (some a1d) x.f1.length c1) ∧ w'.cell? ⟨gp, 2, none⟩ = some (.slice A2 x.f2.length c2) ∧ w'.cell? (a1d.add (k * 3)) = some (.int .i64 h.f0) ∧ w'.cell? ⟨(a1d.add (k * 3)).block, (a1d.add (k * 3)).off + 1, none⟩ = some (.int .i64 h.f1))) := ⟨fun w' hb => ⟨cell_below hb q1, cell_below hb q2, cell_below hb r0, cell_below hb r1⟩⟩
    have i0 : (0 : Int) ≤ (k : Int) := by omega
    have i1 : (k : Int) < (x.f1.length : Int) := by omega
    have HBS := Aside0.mk (below_step HB5.out HBR.out)
    clear HE hh
    go_upto_region 9 with fail
    by_cases ch : h.f1 = (i : Int)
    · have dh : (h.f1 != (i : Int)) = false := by rw [ch]; simp
      have HAT : Aside0 (rHere i x h = decide (rAt x.f2 h.f0 < 0)) := ⟨by unfold rHere; rw [ch]; simp⟩
      clear ch q0 q1 q2 r0 r1
      go_cut [88] (fun u88 wx => u88 = .bool (!rHere i x h) ∧ Aside0 (Below wr.heap.size wr wx))
      case first =>
        go_region_held3 (fun w' => w'.cell? ⟨gp, 1, none⟩ = some (.slice (some a1d) x.f1.length c1) ∧ w'.cell? ⟨gp, 2, none⟩ = some (.slice A2 x.f2.length c2) ∧ w'.cell? (a1d.add (k * 3)) = some (.int .i64 h.f0) ∧ w'.cell? ⟨(a1d.add (k * 3)).block, (a1d.add (k * 3)).off + 1, none⟩ = some (.int .i64 h.f1)) (exact HSB.out _ (by repeat (first | exact Below.refl _ _ | exact HB6.out | refine below_drew ?_))) (first | (go_at_call 73; refine (rat_any A2 x.f2.length c2 x.f2 h.f0 _ rfl (Kd.C_below HC2.out (below_step HBS.out (by repeat (first | exact Below.refl _ _ | refine below_drew ?_)))) l2 HSX.out.2).mono ?_; rintro e w6 ⟨rfl, hB⟩; have HB6 : Aside0 (Below wr.heap.size wr w6) := ⟨below_step (by repeat (first | exact Below.refl _ _ | refine below_drew ?_)) hB⟩; clear hB) | fail)
        all_goals
          go_wp2_with fail
          go_meet
          case rel => exact ⟨by first | rfl | (rw [HAT.out]; congr 1; by_cases q : rAt x.f2 h.f0 < 0 <;> simp [q] <;> omega), HB6⟩
      case rest =>
        obtain ⟨rfl, HB7⟩ := hcut
        obtain ⟨b, hb⟩ : ∃ b, b = rHere i x h := ⟨_, rfl⟩
        rw [← hb] at HST ⊢
        clear hb
        cases b with
        | false =>
          go_wp2_with fail
          go_returns
          exact ⟨by rw [HST.out.1]; rfl, below_step HBS.out HB7.out⟩
        | true =>
          go_wp2_with fail
          go_roundw
          case measure => simp [intOf]; omega
          case rel => exact ⟨k + 1, by go_num, by omega, ⟨HST.out.2 rfl⟩, ⟨below_step HBR.out HB7.out⟩⟩
    · have dh : (h.f1 != (i : Int)) = true := bne_iff_ne.2 ch
      have HF : Aside0 (rAlone m.length i x = false) := ⟨by rw [HST.out.1]; unfold rHere; rw [beq_eq_false_iff_ne.2 ch]; rfl⟩
      clear ch
      go_region
      all_goals
        go_wp2_with fail
        go_returns
        exact ⟨by rw [HF.out]; rfl, by repeat (first | exact HBS.out | refine below_drew ?_)⟩
end Go.Proofs.Ytjnceoohlcchnaa.Print

/-! The reference: two places that say the same. -/
namespace Go.Proofs.Ytjnceoohlcchnaa.Print
open Go Go.RowKit Go.Deep Go.Proofs.YtjnceoohlcchnaaW.PrintWords Go.Proofs.YtjnceoohlcchnaaW.PrintLast Go.Proofs.YtjnceoohlcchnaaW.PrintMore

def rGet (l : List S31) (oid : Int) : Option S31 := l[rAtI oid l]?
theorem rget_cases (l : List S31) (oid : Int) : (rGet l oid = none ∧ rAt l oid = -1) ∨ ∃ (q : Nat) (g : S31), rGet l oid = some g ∧ rAt l oid = (q : Int) ∧ q < l.length ∧ l[q]? = some g := by
  unfold rGet rAt
  by_cases c : rAtI oid l < l.length
  · right
    exact ⟨rAtI oid l, l[rAtI oid l], List.getElem?_eq_getElem c, by rw [if_pos c], c, List.getElem?_eq_getElem c⟩
  · left
    exact ⟨List.getElem?_eq_none (by omega), by rw [if_neg c]⟩
def rCA (b : S36) (h : S31) : Bool := match rGet b.f1 h.f0 with | none => true | some g => !decide (g.f2 < h.f2) && rAgree g h
def rCB (b : S36) (h : S31) : Bool := match rGet b.f2 h.f0 with | none => true | some g => rAgree g h
def rFree (b : S36) (h : S31) : Bool := decide (rAt b.f1 h.f0 < 0)
def rSays (b : S36) (h : S31) : Bool := rCA b h && rCB b h
def rApart (a b : S36) : Bool := a.f1.all (rFree b) && a.f2.all (rSays b)
theorem all_step {p : S31 → Bool} {l : List S31} {k : Nat} {h : S31} (hh : l[k]? = some h) : (l.drop k).all p = (p h && (l.drop (k + 1)).all p) := by
  obtain ⟨h1, h2⟩ := List.getElem?_eq_some_iff.1 hh
  rw [List.drop_eq_getElem_cons h1, h2, List.all_cons]
set_option maxRecDepth 100000 in
set_option maxHeartbeats 8000000 in
theorem rapart_any (x y : S36) (A1 A2 B1 B2 : Option Addr) (c1 c2 d1 d2 : Nat) (w : World) (h1 : Kd.C k31 w A1 x.f1.length x.f1) (h2 : Kd.C k31 w A2 x.f2.length x.f2) (h3 : Kd.C k31 w B1 y.f1.length y.f1) (h4 : Kd.C k31 w B2 y.f2.length y.f2)
    (e3 : y.f1.length ≤ d1) (e4 : y.f2.length ≤ d2) (s1 : x.f1.length ≤ 1000000000000) (s2 : x.f2.length ≤ 1000000000000) (s3 : y.f1.length ≤ 1000000000000) (s4 : y.f2.length ≤ 1000000000000) :
    Calls Try.prog 102 #[.agg #[.bool x.f0, .slice A1 x.f1.length c1, .slice A2 x.f2.length c2], .agg #[.bool y.f0, .slice B1 y.f1.length d1, .slice B2 y.f2.length d2]] w fun e w' => e = .returned (.bool (rApart x y)) ∧ Below w.heap.size w w' := by
  have H1 := Aside0.mk h1
  have H2 := Aside0.mk h2
  have H3 := Aside0.mk h3
  have H4 := Aside0.mk h4
  clear h1 h2 h3 h4
  have huP := Try.underlying36
  have hu := Try.underlying31
  go_enter Try.func102, Try.ntmps102
  go_upto_region 1 with fail
  obtain ⟨ga, hga⟩ : ∃ g, g = w.heap.size := ⟨_, rfl⟩
  obtain ⟨wg, hwg⟩ : ∃ W, W = w.alloc (Obj.cells #[.bool x.f0, .slice A1 x.f1.length c1, .slice A2 x.f2.length c2] 36) := ⟨_, rfl⟩
  rw [← hwg]
  obtain ⟨gb, hgb⟩ : ∃ g, g = w.heap.size + 1 := ⟨_, rfl⟩
  obtain ⟨w1, hw1⟩ : ∃ W, W = wg.alloc (Obj.cells #[.bool y.f0, .slice B1 y.f1.length d1, .slice B2 y.f2.length d2] 36) := ⟨_, rfl⟩
  rw [← hw1, ← hgb, ← hga]
  have hBg : Below w.heap.size w wg := by rw [hwg]; exact below_alloc (Below.refl _ _) _
  have hBh : Below wg.heap.size wg w1 := by rw [hw1]; exact below_alloc (Below.refl _ _) _
  have HB1 := Aside0.mk (below_step hBg hBh)
  have HGA : Aside0 (w1.heap[ga]? = some (.cells #[.bool x.f0, .slice A1 x.f1.length c1, .slice A2 x.f2.length c2] 36 (0, 0))) := ⟨blk_below (by rw [hwg, hga]; exact heap_alloc_new _ _) hBh⟩
  have HGB : Aside0 (w1.heap[gb]? = some (.cells #[.bool y.f0, .slice B1 y.f1.length d1, .slice B2 y.f2.length d2] 36 (0, 0))) := ⟨by rw [hw1, hgb, show w.heap.size + 1 = wg.heap.size by rw [hwg]; exact (Array.size_push (xs := w.heap) _).symm]; exact heap_alloc_new _ _⟩
  clear hwg hw1 hga hgb hBg hBh
  go_wp2_with fail
  go_loopw [5] (fun u5 wr => ∃ k : Nat, u5 = .int .i64 (k : Int) ∧ k ≤ x.f1.length ∧ Aside0 (x.f1.all (rFree y) = (x.f1.drop k).all (rFree y)) ∧ Aside0 (Below w1.heap.size w1 wr)) (fun u5 _ => x.f1.length - (intOf u5).toNat)
  case atStart => exact ⟨0, rfl, Nat.zero_le _, ⟨rfl⟩, ⟨Below.refl _ _⟩⟩
  case round =>
    obtain ⟨k, rfl, hk, HE, HBR⟩ := hrel
    obtain ⟨q0, q1, q2, _, _, _⟩ := blk3 (blk_below HGA.out HBR.out)
    obtain ⟨r0, r1, r2, _, _, _⟩ := blk3 (blk_below HGB.out HBR.out)
    by_cases hlt : k < x.f1.length
    · have dk : decide (k < x.f1.length) = true := decide_eq_true hlt
      obtain ⟨ad, h, rfl, hh, p0, _, _⟩ := hint_at (Kd.C_below H1.out (below_step HB1.out HBR.out)) k hlt
      have HST := Aside0.mk (all_step (p := rFree y) hh)
      have HSB : Aside0 (∀ w', Below wr.heap.size wr w' → (w'.cell? ⟨ga, 1, none⟩ = some (.slice (some ad) x.f1.length c1) ∧ w'.cell? ⟨gb, 1, none⟩ = some (.slice B1 y.f1.length d1) ∧ w'.cell? (ad.add (k * 3)) = some (.int .i64 h.f0))) := ⟨fun w' hb => ⟨cell_below hb q1, cell_below hb r1, cell_below hb p0⟩⟩
      have i0 : (0 : Int) ≤ (k : Int) := by omega
      have i1 : (k : Int) < (x.f1.length : Int) := by omega
      have HBS := Aside0.mk (below_step HB1.out HBR.out)
      have HV : Aside0 (rFree y h = decide (rAt y.f1 h.f0 < 0)) := ⟨rfl⟩
      clear hh
      go_upto_region 4 with fail
      clear q0 q1 q2 r0 r1 r2 p0
      go_cut [25] (fun u25 wx => u25 = .bool (!rFree y h) ∧ Aside0 (Below wr.heap.size wr wx))
      case first =>
        go_region_held3 (fun w' => w'.cell? ⟨ga, 1, none⟩ = some (.slice (some ad) x.f1.length c1) ∧ w'.cell? ⟨gb, 1, none⟩ = some (.slice B1 y.f1.length d1) ∧ w'.cell? (ad.add (k * 3)) = some (.int .i64 h.f0)) (exact HSB.out _ (by repeat (first | exact Below.refl _ _ | exact HB6.out | refine below_drew ?_))) (first | (go_at_call 73; refine (rat_any B1 y.f1.length d1 y.f1 h.f0 _ rfl (Kd.C_below H3.out (below_step HBS.out (by repeat (first | exact Below.refl _ _ | refine below_drew ?_)))) e3 s3).mono ?_; rintro e w6 ⟨rfl, hB⟩; have HB6 : Aside0 (Below wr.heap.size wr w6) := ⟨below_step (by repeat (first | exact Below.refl _ _ | refine below_drew ?_)) hB⟩; clear hB) | fail)
        all_goals
          go_wp2_with fail
          go_meet
          case rel => exact ⟨by first | rfl | (rw [HV.out]; congr 1; by_cases q : rAt y.f1 h.f0 < 0 <;> simp [q] <;> omega), HB6⟩
      case rest =>
        obtain ⟨rfl, HB7⟩ := hcut
        obtain ⟨b, hb⟩ : ∃ b, b = rFree y h := ⟨_, rfl⟩
        rw [← hb] at HST ⊢
        clear hb HV
        cases b with
        | false =>
          have HF : Aside0 (rApart x y = false) := ⟨by unfold rApart; rw [HE.out, HST.out]; rfl⟩
          go_wp2_with fail
          go_returns
          exact ⟨by rw [HF.out]; rfl, below_step HBS.out HB7.out⟩
        | true =>
          go_wp2_with fail
          go_roundw
          case measure => simp [intOf]; omega
          case rel => exact ⟨k + 1, by go_num, by omega, ⟨by rw [HE.out, HST.out]; rfl⟩, ⟨below_step HBR.out HB7.out⟩⟩
    · have dk : decide (k < x.f1.length) = false := decide_eq_false hlt
      have HT : Aside0 (rApart x y = x.f2.all (rSays y)) := ⟨by unfold rApart; rw [HE.out, List.drop_of_length_le (by omega)]; rfl⟩
      have HBS := Aside0.mk (below_step HB1.out HBR.out)
      have HGA2 := Aside0.mk (blk_below HGA.out HBR.out)
      have HGB2 := Aside0.mk (blk_below HGB.out HBR.out)
      obtain ⟨w2, hw2⟩ : ∃ W, W = wr := ⟨_, rfl⟩
      rw [← hw2] at HBS HGA2 HGB2 q0 q1 q2 r0 r1 r2 ⊢
      clear HE HBR hw2 HGA HGB HB1 hlt hk
      go_wp2_with fail
      go_loopw [6] (fun u6 wr => ∃ k : Nat, u6 = .int .i64 (k : Int) ∧ k ≤ x.f2.length ∧ Aside0 (x.f2.all (rSays y) = (x.f2.drop k).all (rSays y)) ∧ Aside0 (Below w2.heap.size w2 wr)) (fun u6 _ => x.f2.length - (intOf u6).toNat)
      case atStart => exact ⟨0, rfl, Nat.zero_le _, ⟨rfl⟩, ⟨Below.refl _ _⟩⟩
      case round =>
        obtain ⟨k, rfl, hk, HE, HBR⟩ := hrel
        clear q0 q1 q2 r0 r1 r2
        obtain ⟨q0, q1, q2, _, _, _⟩ := blk3 (blk_below HGA2.out HBR.out)
        by_cases hlt : k < x.f2.length
        rotate_left
        · have dk2 : decide (k < x.f2.length) = false := decide_eq_false hlt
          have HF : Aside0 (rApart x y = true) := ⟨by rw [HT.out, HE.out, List.drop_of_length_le (by omega)]; rfl⟩
          go_wp2_with fail
          go_returns
          exact ⟨by rw [HF.out]; rfl, below_step HBS.out HBR.out⟩
        have dk2 : decide (k < x.f2.length) = true := decide_eq_true hlt
        obtain ⟨ad, h, rfl, hh, p0, p1, p2⟩ := hint_at (Kd.C_below H2.out (below_step HBS.out HBR.out)) k hlt
        have HST := Aside0.mk (all_step (p := rSays y) hh)
        clear hh
        go_upto_region 10 with fail
        obtain ⟨gh, hgh⟩ : ∃ g, g = wr.heap.size := ⟨_, rfl⟩
        obtain ⟨w3, hw3⟩ : ∃ W, W = wr.alloc (Obj.cells #[Value.int IntKind.i64 h.f0, Value.int IntKind.i64 h.f1, Value.int IntKind.i64 h.f2] 31) := ⟨_, rfl⟩
        rw [← hw3, ← hgh]
        have hB3 : Below wr.heap.size wr w3 := by rw [hw3]; exact below_alloc (Below.refl _ _) _
        have HH3 : Aside0 (w3.heap[gh]? = some (.cells #[.int .i64 h.f0, .int .i64 h.f1, .int .i64 h.f2] 31 (0, 0))) := ⟨by rw [hw3, hgh]; exact heap_alloc_new _ _⟩
        have HB3 := Aside0.mk (below_step HBR.out hB3)
        clear hw3 hgh hB3 q0 q1 q2 p0 p1 p2 HBR
        obtain ⟨q0, q1, q2, _, _, _⟩ := blk3 (blk_below HGB2.out HB3.out)
        obtain ⟨p0, p1, p2, _, _, _⟩ := blk3 HH3.out
        go_wp2_with fail
        refine (rat_any B1 y.f1.length d1 y.f1 h.f0 w3 rfl (Kd.C_below H3.out (below_step HBS.out HB3.out)) e3 s3).mono ?_
        rintro e w4 ⟨rfl, hB⟩
        have HB4 := Aside0.mk (below_step HB3.out hB)
        have HH4 := Aside0.mk (blk_below HH3.out hB)
        clear hB q0 q1 q2 p0 p1 p2 HH3 HB3
        obtain ⟨p0, p1, p2, _, _, _⟩ := blk3 HH4.out
        obtain ⟨q0, q1, q2, _, _, _⟩ := blk3 (blk_below HGB2.out HB4.out)
        have HSB : Aside0 (∀ w', Below w4.heap.size w4 w' → (w'.cell? ⟨gb, 1, none⟩ = some (.slice B1 y.f1.length d1) ∧ w'.cell? ⟨gh, 0, none⟩ = some (.int .i64 h.f0) ∧ w'.cell? ⟨gh, 1, none⟩ = some (.int .i64 h.f1) ∧ w'.cell? ⟨gh, 2, none⟩ = some (.int .i64 h.f2))) := ⟨fun w' hb => ⟨cell_below hb q1, cell_below hb p0, cell_below hb p1, cell_below hb p2⟩⟩
        obtain ⟨t, ht⟩ : ∃ t, t = rAt y.f1 h.f0 := ⟨_, rfl⟩
        rw [← ht]
        have HCA : Aside0 ((t = -1 ∧ rCA y h = true) ∨ ∃ (q : Nat) (g : S31), t = (q : Int) ∧ q < y.f1.length ∧ y.f1[q]? = some g ∧ rCA y h = (!decide (g.f2 < h.f2) && rAgree g h)) := ⟨by
          rw [ht]
          rcases rget_cases y.f1 h.f0 with ⟨a, b⟩ | ⟨q, g, a, b, c, d⟩
          · exact .inl ⟨b, by unfold rCA; rw [a]⟩
          · exact .inr ⟨q, g, b, c, d, by unfold rCA; rw [a]⟩⟩
        clear ht
        go_upto_region 11 with fail
        go_cut [65] (fun u65 wx => u65 = .bool (!rCA y h) ∧ Aside0 (Below w4.heap.size w4 wx))
        case first =>
          rcases HCA.out with ⟨rfl, e⟩ | ⟨q, g, rfl, hq, hg, e⟩
          · replace e := Aside0.mk e
            go_region
            all_goals
              go_wp2_with fail
              go_meet
              case rel => exact ⟨by rw [e.out]; rfl, ⟨by repeat (first | exact Below.refl _ _ | refine below_drew ?_)⟩⟩
          · obtain ⟨bd, g2, rfl, hg2, r0, r1, r2⟩ := hint_at (Kd.C_below H3.out (below_step HBS.out HB4.out)) q hq
            rw [hg] at hg2
            obtain rfl := Option.some.inj hg2
            replace e := Aside0.mk e
            have i0 : (0 : Int) ≤ (q : Int) := by omega
            have i1 : (q : Int) < (y.f1.length : Int) := by omega
            have i2 : decide ((0 : Int) ≤ (q : Int)) = true := decide_eq_true i0
            by_cases lt : g.f2 < h.f2
            · have dl : decide (g.f2 < h.f2) = true := decide_eq_true lt
              clear hg hg2 lt HCA
              go_region
              all_goals
                go_wp2_with fail
                go_meet
                case rel => exact ⟨by rw [e.out, dl]; rfl, ⟨by repeat (first | exact Below.refl _ _ | refine below_drew ?_)⟩⟩
            · have dl : decide (g.f2 < h.f2) = false := decide_eq_false lt
              have HSG : Aside0 (∀ w', Below w4.heap.size w4 w' → (w'.cell? ⟨gb, 1, none⟩ = some (.slice (some bd) y.f1.length d1) ∧ w'.cell? ⟨gh, 0, none⟩ = some (.int .i64 h.f0) ∧ w'.cell? ⟨gh, 1, none⟩ = some (.int .i64 h.f1) ∧ w'.cell? ⟨gh, 2, none⟩ = some (.int .i64 h.f2) ∧ w'.cell? (bd.add (q * 3)) = some (.int .i64 g.f0) ∧ w'.cell? ⟨(bd.add (q * 3)).block, (bd.add (q * 3)).off + 1, none⟩ = some (.int .i64 g.f1) ∧ w'.cell? ⟨(bd.add (q * 3)).block, (bd.add (q * 3)).off + 2, none⟩ = some (.int .i64 g.f2))) := ⟨fun w' hb => ⟨cell_below hb q1, cell_below hb p0, cell_below hb p1, cell_below hb p2, cell_below hb r0, cell_below hb r1, cell_below hb r2⟩⟩
              clear hg hg2 lt HCA q0 q1 q2 p0 p1 p2 r0 r1 r2
              go_region_held3 (fun w' => w'.cell? ⟨gb, 1, none⟩ = some (.slice (some bd) y.f1.length d1) ∧ w'.cell? ⟨gh, 0, none⟩ = some (.int .i64 h.f0) ∧ w'.cell? ⟨gh, 1, none⟩ = some (.int .i64 h.f1) ∧ w'.cell? ⟨gh, 2, none⟩ = some (.int .i64 h.f2) ∧ w'.cell? (bd.add (q * 3)) = some (.int .i64 g.f0) ∧ w'.cell? ⟨(bd.add (q * 3)).block, (bd.add (q * 3)).off + 1, none⟩ = some (.int .i64 g.f1) ∧ w'.cell? ⟨(bd.add (q * 3)).block, (bd.add (q * 3)).off + 2, none⟩ = some (.int .i64 g.f2)) (exact HSG.out _ (by repeat (first | exact Below.refl _ _ | exact HB6.out | refine below_drew ?_))) (first | (go_at_call 113; refine (ragree_any g h _).mono ?_; rintro e6 w6 ⟨rfl, hB⟩; have HB6 : Aside0 (Below w4.heap.size w4 w6) := ⟨below_step (by repeat (first | exact Below.refl _ _ | refine below_drew ?_)) hB⟩; clear hB) | fail)
              all_goals
                go_wp2_with fail
                go_meet
                case rel => exact ⟨by rw [e.out, dl]; rfl, HB6⟩
        case rest =>
          obtain ⟨rfl, HB5⟩ := hcut
          obtain ⟨w5, hw5⟩ : ∃ W, W = wc := ⟨_, rfl⟩
          rw [← hw5] at HB5 ⊢
          have HB5' := Aside0.mk (below_step HB4.out HB5.out)
          have HH5 := Aside0.mk (blk_below HH4.out HB5.out)
          clear hw5 q0 q1 q2 p0 p1 p2 HCA HSB
          obtain ⟨b, hb⟩ : ∃ b, b = rCA y h := ⟨_, rfl⟩
          rw [← hb]
          have HSY : Aside0 (rSays y h = (b && rCB y h)) := ⟨by unfold rSays; rw [hb]⟩
          clear hb HB5 HH4
          obtain ⟨p0, p1, p2, _, _, _⟩ := blk3 HH5.out
          obtain ⟨q0, q1, q2, _, _, _⟩ := blk3 (blk_below HGB2.out HB5'.out)
          cases b with
          | false =>
            have HF : Aside0 (rApart x y = false) := ⟨by rw [HT.out, HE.out, HST.out, HSY.out]; rfl⟩
            go_wp2_with fail
            go_returns
            exact ⟨by rw [HF.out]; rfl, below_step HBS.out HB5'.out⟩
          | true =>
            go_wp2_with fail
            refine (rat_any B2 y.f2.length d2 y.f2 h.f0 w5 rfl (Kd.C_below H4.out (below_step HBS.out HB5'.out)) e4 s4).mono ?_
            rintro e w6 ⟨rfl, hB⟩
            have HB6 := Aside0.mk (below_step HB5'.out hB)
            have HH6 := Aside0.mk (blk_below HH5.out hB)
            clear hB q0 q1 q2 p0 p1 p2 HH5 HB5'
            obtain ⟨p0, p1, p2, _, _, _⟩ := blk3 HH6.out
            obtain ⟨q0, q1, q2, _, _, _⟩ := blk3 (blk_below HGB2.out HB6.out)
            obtain ⟨t2, ht⟩ : ∃ t, t = rAt y.f2 h.f0 := ⟨_, rfl⟩
            rw [← ht]
            have HCB : Aside0 ((t2 = -1 ∧ rCB y h = true) ∨ ∃ (q : Nat) (g : S31), t2 = (q : Int) ∧ q < y.f2.length ∧ y.f2[q]? = some g ∧ rCB y h = rAgree g h) := ⟨by
              rw [ht]
              rcases rget_cases y.f2 h.f0 with ⟨a, b⟩ | ⟨q, g, a, b, c, d⟩
              · exact .inl ⟨b, by unfold rCB; rw [a]⟩
              · exact .inr ⟨q, g, b, c, d, by unfold rCB; rw [a]⟩⟩
            clear ht
            go_upto_region 14 with fail
            go_cut [82] (fun u82 wx => u82 = .bool (!rCB y h) ∧ Aside0 (Below w6.heap.size w6 wx))
            case first =>
              rcases HCB.out with ⟨rfl, e⟩ | ⟨q, g, rfl, hq, hg, e⟩
              · replace e := Aside0.mk e
                go_region
                all_goals
                  go_wp2_with fail
                  go_meet
                  case rel => exact ⟨by rw [e.out]; rfl, ⟨by repeat (first | exact Below.refl _ _ | refine below_drew ?_)⟩⟩
              · obtain ⟨bd, g2, rfl, hg2, r0, r1, r2⟩ := hint_at (Kd.C_below H4.out (below_step HBS.out HB6.out)) q hq
                rw [hg] at hg2
                obtain rfl := Option.some.inj hg2
                replace e := Aside0.mk e
                have i0 : (0 : Int) ≤ (q : Int) := by omega
                have i1 : (q : Int) < (y.f2.length : Int) := by omega
                have i2 : decide ((0 : Int) ≤ (q : Int)) = true := decide_eq_true i0
                have HSG : Aside0 (∀ w', Below w6.heap.size w6 w' → (w'.cell? ⟨gb, 2, none⟩ = some (.slice (some bd) y.f2.length d2) ∧ w'.cell? ⟨gh, 0, none⟩ = some (.int .i64 h.f0) ∧ w'.cell? ⟨gh, 1, none⟩ = some (.int .i64 h.f1) ∧ w'.cell? ⟨gh, 2, none⟩ = some (.int .i64 h.f2) ∧ w'.cell? (bd.add (q * 3)) = some (.int .i64 g.f0) ∧ w'.cell? ⟨(bd.add (q * 3)).block, (bd.add (q * 3)).off + 1, none⟩ = some (.int .i64 g.f1) ∧ w'.cell? ⟨(bd.add (q * 3)).block, (bd.add (q * 3)).off + 2, none⟩ = some (.int .i64 g.f2))) := ⟨fun w' hb => ⟨cell_below hb q2, cell_below hb p0, cell_below hb p1, cell_below hb p2, cell_below hb r0, cell_below hb r1, cell_below hb r2⟩⟩
                clear hg hg2 HCB q0 q1 q2 p0 p1 p2 r0 r1 r2
                go_region_held3 (fun w' => w'.cell? ⟨gb, 2, none⟩ = some (.slice (some bd) y.f2.length d2) ∧ w'.cell? ⟨gh, 0, none⟩ = some (.int .i64 h.f0) ∧ w'.cell? ⟨gh, 1, none⟩ = some (.int .i64 h.f1) ∧ w'.cell? ⟨gh, 2, none⟩ = some (.int .i64 h.f2) ∧ w'.cell? (bd.add (q * 3)) = some (.int .i64 g.f0) ∧ w'.cell? ⟨(bd.add (q * 3)).block, (bd.add (q * 3)).off + 1, none⟩ = some (.int .i64 g.f1) ∧ w'.cell? ⟨(bd.add (q * 3)).block, (bd.add (q * 3)).off + 2, none⟩ = some (.int .i64 g.f2)) (exact HSG.out _ (by repeat (first | exact Below.refl _ _ | exact HB7.out | refine below_drew ?_))) (first | (go_at_call 113; refine (ragree_any g h _).mono ?_; rintro e6 w7 ⟨rfl, hB⟩; have HB7 : Aside0 (Below w6.heap.size w6 w7) := ⟨below_step (by repeat (first | exact Below.refl _ _ | refine below_drew ?_)) hB⟩; clear hB) | fail)
                all_goals
                  go_wp2_with fail
                  go_meet
                  case rel => exact ⟨by first | rw [e.out] | (rw [e.out]; rfl), HB7⟩
            case rest =>
              obtain ⟨rfl, HB8⟩ := hcut
              have HB9 := Aside0.mk (below_step HB6.out HB8.out)
              obtain ⟨b, hb⟩ : ∃ b, b = rCB y h := ⟨_, rfl⟩
              rw [← hb] at HSY ⊢
              clear hb HCB q0 q1 q2 p0 p1 p2
              cases b with
              | false =>
                have HF : Aside0 (rApart x y = false) := ⟨by rw [HT.out, HE.out, HST.out, HSY.out]; rfl⟩
                go_wp2_with fail
                go_returns
                exact ⟨by rw [HF.out]; rfl, below_step HBS.out HB9.out⟩
              | true =>
                go_wp2_with fail
                go_roundw
                case measure => first | (simp [intOf]; done) | (simp [intOf]; omega)
                case rel => exact ⟨k + 1, by go_num, by omega, ⟨by rw [HE.out, HST.out, HSY.out]; rfl⟩, HB9⟩
end Go.Proofs.Ytjnceoohlcchnaa.Print

-- written by wip/dev/pprint.py (over the kit's printer), laid by relay.py
namespace Go.Proofs.Ytjnceoohlcchnaa.Print
open Go.RowKit Go.Proofs.YtjnceoohlcchnaaW.PrintWords Go.Proofs.YtjnceoohlcchnaaW.PrintLast Go.Proofs.YtjnceoohlcchnaaW.PrintMore
attribute [local go_sem] max2_int min2_int max_two min_two max_three min_three max_four min_four   -- for this text's walks alone
set_option linter.unusedVariables false
set_option linter.unusedSimpArgs false






/-! ### berylref17_New: function 36 -/
mutual
def berylref17_New.j0 : Nat → Int → Bool → Option ((List (S36)) × Int)
  | 0, _, _ => none
  | k + 1, x0, x11 => if x11 = true then (some (([] : List (S36)), 1)) else (berylref17_New.l0 k x0 ([] : List (S36)) 0)
def berylref17_New.l0 : Nat → Int → List (S36) → Int → Option ((List (S36)) × Int)
  | 0, _, _, _ => none
  | k + 1, x0, x4, x5 => if x5 < x0 then (if x4.length < 2513169434916 then (berylref17_New.l0 k x0 (x4 ++ [(⟨true, ([] : List (S31)), ([] : List (S31))⟩ : S36)]) (wrap64 (x5 + 1))) else (none)) else (some (x4, 0))
end
def berylref17_New.f (k : Nat) (a0 : Int) : Option ((List (S36)) × Int) := if a0 < 1 then (berylref17_New.j0 k a0 true) else (berylref17_New.j0 k a0 (decide (a0 > 16)))
theorem berylref17_New.mono_l : ∀ k, (∀ y0 y1, LeO (berylref17_New.j0 k y0 y1) (berylref17_New.j0 (k + 1) y0 y1)) ∧ (∀ y0 y1 y2, LeO (berylref17_New.l0 k y0 y1 y2) (berylref17_New.l0 (k + 1) y0 y1 y2))
  | 0 => ⟨fun _ _ r h => by simp [berylref17_New.j0] at h, fun _ _ _ r h => by simp [berylref17_New.l0] at h⟩
  | k + 1 => by
    obtain ⟨ih0, ih1⟩ := berylref17_New.mono_l k
    refine ⟨?_, ?_⟩
    · intro y0 y1
      unfold berylref17_New.j0
      repeat' first
      | (with_reducible exact ih0 _ _)
      | (with_reducible exact ih1 _ _ _)
      | (with_reducible exact LeO.refl _)
      | (with_reducible exact LeO.none _)
      | (with_reducible refine LeO.ite ?_ ?_)
      | (with_reducible refine LeO.bind ?_ (fun _ => ?_))
      | exact ih0 _ _
      | exact ih1 _ _ _
      | exact LeO.none _
      | refine LeO.ite ?_ ?_
      | refine LeO.bind ?_ (fun _ => ?_)
    · intro y0 y1 y2
      unfold berylref17_New.l0
      repeat' first
      | (with_reducible exact ih0 _ _)
      | (with_reducible exact ih1 _ _ _)
      | (with_reducible exact LeO.refl _)
      | (with_reducible exact LeO.none _)
      | (with_reducible refine LeO.ite ?_ ?_)
      | (with_reducible refine LeO.bind ?_ (fun _ => ?_))
      | exact ih0 _ _
      | exact ih1 _ _ _
      | exact LeO.none _
      | refine LeO.ite ?_ ?_
      | refine LeO.bind ?_ (fun _ => ?_)
theorem berylref17_New.mono : ∀ a0 k, LeO (berylref17_New.f k a0) (berylref17_New.f (k + 1) a0) := by
  intro a0 k
  obtain ⟨ih0, ih1⟩ := berylref17_New.mono_l k
  unfold berylref17_New.f
  repeat' first
      | (with_reducible exact ih0 _ _)
      | (with_reducible exact ih1 _ _ _)
      | (with_reducible exact LeO.refl _)
      | (with_reducible exact LeO.none _)
      | (with_reducible refine LeO.ite ?_ ?_)
      | (with_reducible refine LeO.bind ?_ (fun _ => ?_))
      | exact ih0 _ _
      | exact ih1 _ _ _
      | exact LeO.none _
      | refine LeO.ite ?_ ?_
      | refine LeO.bind ?_ (fun _ => ?_)
set_option maxHeartbeats 8000000 in
set_option maxRecDepth 100000 in
theorem berylref17_New.calls (k : Nat) (a0 : Int) (r1 : List (S36)) (r2 : Int) (w : World) (h : berylref17_New.f k a0 = some (r1, r2)) :
    Calls Try.prog 36 #[.int .i64 a0] w fun e w' => ∃ v0_ : Value, e = .returned (.tuple #[v0_, .int .i64 r2]) ∧ Kd.S k36 36 w' w.heap.size (fun _ => True) v0_ r1 ∧ Below w.heap.size w w' := by
  have hu36 := Try.underlying36
  have HB := Aside0.mk (Below.refl w.heap.size w)
  have H : (if a0 < 1 then (berylref17_New.j0 k a0 true) else (berylref17_New.j0 k a0 (decide (a0 > 16)))) = some (r1, r2) := h
  clear h
  have HC2 := Aside0.mk H
  clear H
  go_enter Try.func36, Try.ntmps36
  go_upto_region 1 with (fail)
  go_cut [11] (fun v11 wc => ∃ (kq : Nat) (x11_1 : Bool), v11 = .bool x11_1 ∧ Aside0 (berylref17_New.j0 kq a0 x11_1 = some (r1, r2)) ∧ Aside0 (kq ≤ k) ∧ Aside0 (Below w.heap.size w wc))
  case first =>
    have H := HC2.out
    clear HC2
    by_cases c3 : a0 < 1
    · rw [if_pos c3] at H
      have c3b0 : decide (a0 < 1) = true := decide_eq_true c3
      clear c3
      (first | rw [c3b0] | (simp only [i64_w, i32_w]; rw [c3b0]) | skip)
      have H' := Aside0.mk H
      clear H
      go_wp2
      go_meet
      case rel => exact ⟨_, (true), (by first | rfl | (simp; done) | (simp [*]; done)), H', ⟨by first | omega | exact Nat.le_refl _⟩, ⟨by repeat (first | (with_reducible first | exact HB.out | apply below_alloc | apply pw_below_drewN | apply below_drew1) | exact HB.out)⟩⟩
    · rw [if_neg c3] at H
      have c3b0 : decide (a0 < 1) = false := decide_eq_false c3
      clear c3
      (first | rw [c3b0] | (simp only [i64_w, i32_w]; rw [c3b0]) | skip)
      have H' := Aside0.mk H
      clear H
      go_wp2
      go_meet
      case rel => exact ⟨_, (decide (a0 > 16)), (by first | rfl | (simp; done) | (simp [*]; done)), H', ⟨by first | omega | exact Nat.le_refl _⟩, ⟨by repeat (first | (with_reducible first | exact HB.out | apply below_alloc | apply pw_below_drewN | apply below_drew1) | exact HB.out)⟩⟩
  case rest =>
    clear HC2
    try clear p2
    try clear c3
    try clear c3b0
    obtain ⟨kq, x11_1, rfl, HA, HJ1, HB⟩ := hcut
    cases kq with
    | zero => exact absurd HA.out (by simp [berylref17_New.j0])
    | succ kj1 =>
      have H := HA.out
      clear HA
      simp only [berylref17_New.j0] at H
      by_cases c4 : x11_1 = true
      · subst c4
        have H1 : (some (([] : List (S36)), 1)) = some (r1, r2) := by rw [if_pos rfl] at H; exact H
        clear H
        have H := H1
        clear H1
        simp only [Option.some.injEq, Prod.mk.injEq] at H
        obtain ⟨rfl, rfl⟩ := H
        go_wp2
        go_ret2
        exact ⟨_, by first | rfl | (simp [errW_none, errW_some] <;> rfl) | (simp [*, errW_none, errW_some] <;> rfl), by first | exact Kd.S_nil _ _ _ _ _ | exact Kd.N_nil _ _ _ _ _ | exact Kd.V_nil _ _ _ _ _ | exact Kd.Q_nil _ _ _ _ _ | exact Kd.R_nil _ _ _ _ _, by repeat (first | (with_reducible first | exact HB.out | apply below_alloc | apply pw_below_drewN | apply below_drew1) | exact HB.out)⟩
      · replace c4 := Bool.eq_false_iff.mpr c4
        subst c4
        have H1 : (berylref17_New.l0 kj1 a0 ([] : List (S36)) 0) = some (r1, r2) := by rw [if_neg (show ¬ (false = true) by decide)] at H; exact H
        clear H
        have H := H1
        clear H1
        have H' := Aside0.mk H
        clear H
        go_wp2
        go_loopg [4, 5] kj1 (fun kq v4 v5 w' => ∃ (x4_2 : List (S36)) (x5_2 : Int), v5 = .int .i64 x5_2 ∧ Aside0 (berylref17_New.l0 kq a0 x4_2 x5_2 = some (r1, r2)) ∧ Aside0 (kq ≤ kj1) ∧ Aside0 (Kd.S k36 36 w' w.heap.size (fun _ => True) v4 x4_2) ∧ Aside0 (Below w.heap.size w w'))
        case atStart => exact ⟨(([] : List (S36))), (0), (by first | rfl | (simp; done) | (simp [*]; done)), H', ⟨Nat.le_refl _⟩, ⟨by first | exact Kd.S_nil _ _ _ _ _ | exact Kd.N_nil _ _ _ _ _ | exact Kd.V_nil _ _ _ _ _ | exact Kd.Q_nil _ _ _ _ _ | exact Kd.R_nil _ _ _ _ _⟩, ⟨by repeat (first | (with_reducible first | exact HB.out | apply below_alloc | apply pw_below_drewN | apply below_drew1) | exact HB.out)⟩⟩
        case round =>
          clear H'
          try clear p2
          try clear c3
          try clear c3b0
          try clear c4
          try clear p2
          obtain ⟨x4_2, x5_2, rfl, HA, HK2, HO_4, HB⟩ := hrel
          cases gk with
          | zero => exact absurd HA.out (by simp [berylref17_New.l0])
          | succ k2 =>
            have H := HA.out
            clear HA
            simp only [berylref17_New.l0] at H
            by_cases c5 : x5_2 < a0
            · rw [if_pos c5] at H
              have c5b0 : decide (x5_2 < a0) = true := decide_eq_true c5
              clear c5
              by_cases c6 : x4_2.length < 2513169434916
              · rw [if_pos c6] at H
                have LMc6 := Aside0.mk c6
                clear c6
                obtain ⟨y383, hy383⟩ : ∃ y_ : List (S36), y_ = (x4_2 ++ [(⟨true, ([] : List (S31)), ([] : List (S31))⟩ : S36)]) := ⟨_, rfl⟩
                replace H : (berylref17_New.l0 k2 a0 y383 (wrap64 (x5_2 + 1))) = some (r1, r2) := by first | (rw [hy383]; with_reducible exact H) | (have H2_ := (Option.bind_some _ _).symm.trans H; rw [hy383]; with_reducible exact H2_) | (have H2_ := (Option.bind_some _ _).symm.trans H; with_reducible exact H2_) | with_reducible exact H | (rw [hy383]; exact H) | exact H
                have Ny383 := Aside0.mk hy383
                clear hy383
                have H' := Aside0.mk H
                clear H
                go_wp2_with (first | ((with_reducible refine gate_builtin (b := .append) (xs := #[.tmp 17, .tmp 19]) rfl ?_); at_builtin; refine Kd.S_append k36 (w0 := w) w.heap.size rfl (.tmp 17) (.tmp 19) 22 36 (.agg #[(.bool false), (.slice none 0 0), (.slice none 0 0)]) 56 rfl Try.underlying22 info36 rfl (by decide) (by omega) u4 x4_2 (⟨true, ([] : List (S31)), ([] : List (S31))⟩ : S36) [.bool true, .slice none 0 0, .slice none 0 0] (fun _ => True) (fun _ => False) rfl rfl ?aP (fun k_ hk_ => hk_.elim) ?aF ?aO ?aB ?aS ?aL ?_; (case aP => exact k36_mkM _ _ _ (⟨true, ([] : List (S31)), ([] : List (S31))⟩ : S36) (Kd.R_nil _ _ _ _ _) (Kd.R_nil _ _ _ _ _)); (case aB => exact (by repeat (first | (with_reducible first | exact HB.out | apply below_alloc | apply pw_below_drewN | apply below_drew1) | exact HB.out))); (case aF => exact (fun _ _ => trivial)); (case aO => exact (by (with_reducible repeat (first | apply Kd.S_alloc | apply Kd.S_drewN | apply Kd.S_drew)); exact Kd.S_mono HO_4.out (fun k_ hk => ⟨trivial, fun e_ => e_⟩))); (case aS => exact (below_size (by repeat (first | (with_reducible first | exact HB.out | apply below_alloc | apply pw_below_drewN | apply below_drew1) | exact HB.out)))); (case aL => have := LMc6.out; omega); intro v384 w7 ho hb hg hat; rw [← Ny383.out] at ho; have n0_ := Aside0.mk (hb); have n1_ := Aside0.mk (ho); clear HB; clear HO_4; have HB := n0_; have HO385 := n1_; clear n0_ n1_; clear ho hb hg hat))
                go_roundg k2
                case measure => have := HJ1.out; have := HK2.out; omega
                case rel => exact ⟨(y383), (wrap64 (x5_2 + 1)), (by first | rfl | (simp; done) | (simp [*]; done)), H', ⟨by have := HJ1.out; have := HK2.out; omega⟩, ⟨by (with_reducible repeat (first | apply Kd.S_alloc | apply Kd.S_drewN | apply Kd.S_drew)); exact HO385.out⟩, ⟨by repeat (first | (with_reducible first | exact HB.out | apply below_alloc | apply pw_below_drewN | apply below_drew1) | exact HB.out)⟩⟩
              · rw [if_neg c6] at H
                exact absurd H (by simp)
            · rw [if_neg c5] at H
              have c5b0 : decide (x5_2 < a0) = false := decide_eq_false c5
              clear c5
              simp only [Option.some.injEq, Prod.mk.injEq] at H
              obtain ⟨rfl, rfl⟩ := H
              go_wp2
              go_ret2
              exact ⟨_, by first | rfl | (simp [errW_none, errW_some] <;> rfl) | (simp [*, errW_none, errW_some] <;> rfl), by (with_reducible repeat (first | apply Kd.S_alloc | apply Kd.S_drewN | apply Kd.S_drew)); exact HO_4.out, by repeat (first | (with_reducible first | exact HB.out | apply below_alloc | apply pw_below_drewN | apply below_drew1) | exact HB.out)⟩

/-! ### berylref17_Bound: function 37 -/
def berylref17_Bound.f (a0 : Int) : Option (Int × Int) := if a0 < 1 then (some (0, 1)) else (if a0 > 16 then (some (0, 1)) else (some (wrap64 (2 * a0), 0)))
set_option maxHeartbeats 8000000 in
set_option maxRecDepth 100000 in
theorem berylref17_Bound.calls (a0 : Int) (r1 : Int) (r2 : Int) (w : World) (h : berylref17_Bound.f a0 = some (r1, r2)) :
    Calls Try.prog 37 #[.int .i64 a0] w fun e w' => e = .returned (.tuple #[.int .i64 r1, .int .i64 r2]) ∧ Drawn0 w w' := by
  have H : (if a0 < 1 then (some (0, 1)) else (if a0 > 16 then (some (0, 1)) else (some (wrap64 (2 * a0), 0)))) = some (r1, r2) := h
  clear h
  by_cases c2 : a0 < 1
  · rw [if_pos c2] at H
    have c2b0 : decide (a0 < 1) = true := decide_eq_true c2
    clear c2
    simp only [Option.some.injEq, Prod.mk.injEq] at H
    obtain ⟨rfl, rfl⟩ := H
    go_enter Try.func37, Try.ntmps37
    go_wp2
    go_ret2
    exact ⟨by first | rfl | (simp; done) | (simp [*]; done), by repeat (first | exact Drawn0.refl _ | apply Drawn0.step)⟩
  · rw [if_neg c2] at H
    have c2b0 : decide (a0 < 1) = false := decide_eq_false c2
    clear c2
    by_cases c3 : a0 > 16
    · rw [if_pos c3] at H
      have c3b0 : decide (16 < a0) = true := decide_eq_true c3
      clear c3
      simp only [Option.some.injEq, Prod.mk.injEq] at H
      obtain ⟨rfl, rfl⟩ := H
      go_enter Try.func37, Try.ntmps37
      go_wp2
      go_ret2
      exact ⟨by first | rfl | (simp; done) | (simp [*]; done), by repeat (first | exact Drawn0.refl _ | apply Drawn0.step)⟩
    · rw [if_neg c3] at H
      have c3b0 : decide (16 < a0) = false := decide_eq_false c3
      clear c3
      simp only [Option.some.injEq, Prod.mk.injEq] at H
      obtain ⟨rfl, rfl⟩ := H
      go_enter Try.func37, Try.ntmps37
      go_wp2
      go_ret2
      exact ⟨by first | rfl | (simp; done) | (simp [*]; done), by repeat (first | exact Drawn0.refl _ | apply Drawn0.step)⟩

-- NOT PRINTED: function 7 (beryllaw17_FindChecks)

-- NOT PRINTED: function 46 (find_Crash)

-- NOT PRINTED: function 48 (find_Recover)
end Go.Proofs.Ytjnceoohlcchnaa.Print

/-! The reference: which maps are valid, new ones, and equal ones. -/
namespace Go.Proofs.Ytjnceoohlcchnaa.Print
open Go Go.RowKit Go.Deep Go.Proofs.YtjnceoohlcchnaaW.PrintWords Go.Proofs.YtjnceoohlcchnaaW.PrintLast Go.Proofs.YtjnceoohlcchnaaW.PrintMore

def rAl (p : Int) : Nat → List S36 → Bool
  | _, [] => true
  | i, x :: l => rAlone p (i : Int) x && rAl p (i + 1) l
def rRow (x : S36) (i : Nat) : Nat → List S36 → Bool
  | _, [] => true
  | k, y :: l => ((i == k) || rApart x y) && rRow x i (k + 1) l
def rGrid (m : List S36) : Nat → List S36 → Bool
  | _, [] => true
  | i, x :: l => rRow x i 0 m && rGrid m (i + 1) l
def rValid (l : List S36) : Bool := rAl l.length 0 l && rGrid l 0 l
def rCheck (l : List S36) : Int := if (decide (1 ≤ l.length) && (decide (l.length ≤ 16) && rValid l)) = true then 0 else 170
theorem rAl_step (p : Int) {l : List S36} {k : Nat} {x : S36} (hh : l[k]? = some x) : rAl p k (l.drop k) = (rAlone p (k : Int) x && rAl p (k + 1) (l.drop (k + 1))) := by
  obtain ⟨h1, h2⟩ := List.getElem?_eq_some_iff.1 hh
  rw [List.drop_eq_getElem_cons h1, h2, rAl]
theorem rRow_step (y : S36) (i : Nat) {l : List S36} {k : Nat} {x : S36} (hh : l[k]? = some x) : rRow y i k (l.drop k) = (((i == k) || rApart y x) && rRow y i (k + 1) (l.drop (k + 1))) := by
  obtain ⟨h1, h2⟩ := List.getElem?_eq_some_iff.1 hh
  rw [List.drop_eq_getElem_cons h1, h2, rRow]
theorem rGrid_step (m : List S36) {l : List S36} {k : Nat} {x : S36} (hh : l[k]? = some x) : rGrid m k (l.drop k) = (rRow x k 0 m && rGrid m (k + 1) (l.drop (k + 1))) := by
  obtain ⟨h1, h2⟩ := List.getElem?_eq_some_iff.1 hh
  rw [List.drop_eq_getElem_cons h1, h2, rGrid]
set_option maxRecDepth 100000 in
set_option maxHeartbeats 8000000 in
theorem rvalid_any (A : Option Addr) (n c : Nat) (m : List S36) (w : World) (hn : n = m.length) (hr : Kd.C k36 w A m.length m) (hc : n ≤ c) (hs : Short m) :
    Calls Try.prog 80 #[.slice A n c] w fun e w' => e = .returned (.bool (rValid m)) ∧ Below w.heap.size w w' := by
  subst hn
  have HR := Aside0.mk hr
  have HS := Aside0.mk hs
  have hm6 := hs.1
  clear hr hs
  have huP := Try.underlying36
  go_enter Try.func80, Try.ntmps80
  go_wp2_with fail
  go_loopw [3] (fun u3 wr => ∃ k : Nat, u3 = .int .i64 (k : Int) ∧ k ≤ m.length ∧ Aside0 (rAl m.length 0 m = rAl m.length k (m.drop k)) ∧ Aside0 (Below w.heap.size w wr)) (fun u3 _ => m.length - (intOf u3).toNat)
  case atStart => exact ⟨0, rfl, Nat.zero_le _, ⟨rfl⟩, ⟨Below.refl _ _⟩⟩
  case round =>
    obtain ⟨k, rfl, hk, HE, HBR⟩ := hrel
    by_cases hlt : k < m.length
    · have dk : decide (k < m.length) = true := decide_eq_true hlt
      obtain ⟨x, hx⟩ : ∃ x, m[k]? = some x := ⟨_, List.getElem?_eq_getElem hlt⟩
      have HST := Aside0.mk (rAl_step m.length hx)
      have HX := Aside0.mk hx
      clear hx
      go_wp2_with fail
      refine (ralone_any A m.length c m k x wr rfl hlt HX.out (Kd.C_below HR.out HBR.out) hc HS.out).mono ?_
      rintro e w2 ⟨rfl, hB⟩
      have HB2 := Aside0.mk (below_step HBR.out hB)
      clear hB
      obtain ⟨b, hb⟩ : ∃ b, b = rAlone m.length (k : Int) x := ⟨_, rfl⟩
      rw [← hb] at HST ⊢
      clear hb
      cases b with
      | false =>
        have HF : Aside0 (rValid m = false) := ⟨by unfold rValid; rw [HE.out, HST.out]; rfl⟩
        go_wp2_with fail
        go_returns
        exact ⟨by rw [HF.out]; rfl, HB2.out⟩
      | true =>
        go_wp2_with fail
        go_roundw
        case measure => simp [intOf]; omega
        case rel => exact ⟨k + 1, by go_num, by omega, ⟨by rw [HE.out, HST.out]; rfl⟩, HB2⟩
    · have dk : decide (k < m.length) = false := decide_eq_false hlt
      have HT : Aside0 (rValid m = rGrid m 0 m) := ⟨by unfold rValid; rw [HE.out, List.drop_of_length_le (by omega)]; rfl⟩
      obtain ⟨w2, hw2⟩ : ∃ W, W = wr := ⟨_, rfl⟩
      rw [← hw2] at HBR ⊢
      have HB2 := HBR
      clear HE hw2 HBR hlt hk
      go_wp2_with fail
      go_loopw [4] (fun u4 wr => ∃ i : Nat, u4 = .int .i64 (i : Int) ∧ i ≤ m.length ∧ Aside0 (rGrid m 0 m = rGrid m i (m.drop i)) ∧ Aside0 (Below w2.heap.size w2 wr)) (fun u4 _ => m.length - (intOf u4).toNat)
      case atStart => exact ⟨0, rfl, Nat.zero_le _, ⟨rfl⟩, ⟨Below.refl _ _⟩⟩
      case round =>
        obtain ⟨i, rfl, hi, HE, HBR⟩ := hrel
        by_cases hlt : i < m.length
        rotate_left
        · have di : decide (i < m.length) = false := decide_eq_false hlt
          have HF : Aside0 (rValid m = true) := ⟨by rw [HT.out, HE.out, List.drop_of_length_le (by omega)]; rfl⟩
          go_wp2_with fail
          go_returns
          exact ⟨by rw [HF.out]; rfl, below_step HB2.out HBR.out⟩
        have di : decide (i < m.length) = true := decide_eq_true hlt
        obtain ⟨x, hx⟩ : ∃ x, m[i]? = some x := ⟨_, List.getElem?_eq_getElem hlt⟩
        have HST := Aside0.mk (rGrid_step m hx)
        have HX := Aside0.mk hx
        have HBS := Aside0.mk (below_step HB2.out HBR.out)
        obtain ⟨w3, hw3⟩ : ∃ W, W = wr := ⟨_, rfl⟩
        rw [← hw3] at HBS HBR ⊢
        clear hx hw3
        go_wp2_with fail
        go_loopw [5] (fun u5 wr => ∃ k : Nat, u5 = .int .i64 (k : Int) ∧ k ≤ m.length ∧ Aside0 (rRow x i 0 m = rRow x i k (m.drop k)) ∧ Aside0 (Below w3.heap.size w3 wr)) (fun u5 _ => m.length - (intOf u5).toNat)
        case atStart => exact ⟨0, rfl, Nat.zero_le _, ⟨rfl⟩, ⟨Below.refl _ _⟩⟩
        case round =>
          obtain ⟨k, rfl, hk, HQ, HBQ⟩ := hrel
          by_cases hlk : k < m.length
          rotate_left
          · have dk2 : decide (k < m.length) = false := decide_eq_false hlk
            have HF : Aside0 (rRow x i 0 m = true) := ⟨by rw [HQ.out, List.drop_of_length_le (by omega)]; rfl⟩
            go_wp2_with fail
            go_roundw
            case measure => first | (simp [intOf]; done) | (simp [intOf]; omega)
            case rel => exact ⟨i + 1, by go_num, by omega, ⟨by rw [HE.out, HST.out, HF.out]; rfl⟩, ⟨below_step HBR.out HBQ.out⟩⟩
          have dk2 : decide (k < m.length) = true := decide_eq_true hlk
          obtain ⟨y, hy⟩ : ∃ y, m[k]? = some y := ⟨_, List.getElem?_eq_getElem hlk⟩
          have HSR := Aside0.mk (rRow_step x i hy)
          by_cases cik : i = k
          · have dik : ((i : Int) != (k : Int)) = false := by rw [cik]; simp
            have HE2 : Aside0 (rRow x i 0 m = rRow x i (k + 1) (m.drop (k + 1))) := ⟨by rw [HQ.out, HSR.out, cik]; simp⟩
            clear hy cik HSR HQ
            go_upto_region 12 with fail
            go_region
            all_goals
              go_wp2_with fail
              go_roundw
              case measure => first | (simp [intOf]; done) | (simp [intOf]; omega)
              case rel => exact ⟨k + 1, by go_num, by omega, HE2, ⟨by repeat (first | exact HBQ.out | refine below_drew ?_)⟩⟩
          · have dik : ((i : Int) != (k : Int)) = true := bne_iff_ne.2 (by omega)
            have HBT := Aside0.mk (below_step HBS.out HBQ.out)
            obtain ⟨ad, x2, A1, c1, A2, c2, rfl, hx2, p0, p1, p2, l1, g1, l2, g2⟩ := post_at (Kd.C_below HR.out HBT.out) i hlt
            rw [HX.out] at hx2
            obtain rfl := Option.some.inj hx2
            obtain ⟨ad2, y2, B1, d1, B2, d2, hade, hy2, q0, q1, q2, l3, g3, l4, g4⟩ := post_at (Kd.C_below HR.out HBT.out) k hlk
            obtain rfl := Option.some.inj hade
            rw [hy] at hy2
            obtain rfl := Option.some.inj hy2
            have HSX := Aside0.mk (HS.out.2 x (List.mem_of_getElem? HX.out))
            have HSY := Aside0.mk (HS.out.2 y (List.mem_of_getElem? hy))
            have G1 := Aside0.mk g1
            have G2 := Aside0.mk g2
            have G3 := Aside0.mk g3
            have G4 := Aside0.mk g4
            have HSB : Aside0 (∀ w', Below wr.heap.size wr w' → (w'.cell? (ad.add (i * 3)) = some (.bool x.f0) ∧ w'.cell? ⟨(ad.add (i * 3)).block, (ad.add (i * 3)).off + 1, none⟩ = some (.slice A1 x.f1.length c1) ∧ w'.cell? ⟨(ad.add (i * 3)).block, (ad.add (i * 3)).off + 2, none⟩ = some (.slice A2 x.f2.length c2) ∧ w'.cell? (ad.add (k * 3)) = some (.bool y.f0) ∧ w'.cell? ⟨(ad.add (k * 3)).block, (ad.add (k * 3)).off + 1, none⟩ = some (.slice B1 y.f1.length d1) ∧ w'.cell? ⟨(ad.add (k * 3)).block, (ad.add (k * 3)).off + 2, none⟩ = some (.slice B2 y.f2.length d2))) := ⟨fun w' hb => ⟨cell_below hb p0, cell_below hb p1, cell_below hb p2, cell_below hb q0, cell_below hb q1, cell_below hb q2⟩⟩
            have i0 : (0 : Int) ≤ (i : Int) := by omega
            have i1 : (i : Int) < (m.length : Int) := by omega
            have i2 : (0 : Int) ≤ (k : Int) := by omega
            have i3 : (k : Int) < (m.length : Int) := by omega
            have HEQ : Aside0 (rRow x i k (m.drop k) = (rApart x y && rRow x i (k + 1) (m.drop (k + 1)))) := ⟨by rw [HSR.out, beq_eq_false_iff_ne.2 cik, Bool.false_or]⟩
            clear hy hx2 g1 g2 g3 g4 HSR
            go_upto_region 12 with fail
            clear p0 p1 p2 q0 q1 q2
            go_cut [42] (fun u42 wx => u42 = .bool (!rApart x y) ∧ Aside0 (Below wr.heap.size wr wx))
            case first =>
              go_region_held3 (fun w' => w'.cell? (ad.add (i * 3)) = some (.bool x.f0) ∧ w'.cell? ⟨(ad.add (i * 3)).block, (ad.add (i * 3)).off + 1, none⟩ = some (.slice A1 x.f1.length c1) ∧ w'.cell? ⟨(ad.add (i * 3)).block, (ad.add (i * 3)).off + 2, none⟩ = some (.slice A2 x.f2.length c2) ∧ w'.cell? (ad.add (k * 3)) = some (.bool y.f0) ∧ w'.cell? ⟨(ad.add (k * 3)).block, (ad.add (k * 3)).off + 1, none⟩ = some (.slice B1 y.f1.length d1) ∧ w'.cell? ⟨(ad.add (k * 3)).block, (ad.add (k * 3)).off + 2, none⟩ = some (.slice B2 y.f2.length d2)) (exact HSB.out _ (by repeat (first | exact Below.refl _ _ | exact HB6.out | refine below_drew ?_))) (first | (go_at_call 102; refine (rapart_any x y A1 A2 B1 B2 c1 c2 d1 d2 _ (Kd.C_below G1.out (by repeat (first | exact Below.refl _ _ | refine below_drew ?_))) (Kd.C_below G2.out (by repeat (first | exact Below.refl _ _ | refine below_drew ?_))) (Kd.C_below G3.out (by repeat (first | exact Below.refl _ _ | refine below_drew ?_))) (Kd.C_below G4.out (by repeat (first | exact Below.refl _ _ | refine below_drew ?_))) l3 l4 HSX.out.1 HSX.out.2 HSY.out.1 HSY.out.2).mono ?_; rintro e6 w6 ⟨rfl, hB⟩; have HB6 : Aside0 (Below wr.heap.size wr w6) := ⟨below_step (by repeat (first | exact Below.refl _ _ | refine below_drew ?_)) hB⟩; clear hB) | fail)
              all_goals
                go_wp2_with fail
                go_meet
                case rel => exact ⟨rfl, HB6⟩
            case rest =>
              obtain ⟨rfl, HB7⟩ := hcut
              obtain ⟨b, hb⟩ : ∃ b, b = rApart x y := ⟨_, rfl⟩
              rw [← hb] at HEQ ⊢
              clear hb
              cases b with
              | false =>
                have HF : Aside0 (rValid m = false) := ⟨by rw [HT.out, HE.out, HST.out, HQ.out, HEQ.out]; rfl⟩
                go_wp2_with fail
                go_returns
                exact ⟨by rw [HF.out]; rfl, below_step HBT.out HB7.out⟩
              | true =>
                go_wp2_with fail
                go_roundw
                case measure => first | (simp [intOf]; done) | (simp [intOf]; omega)
                case rel => exact ⟨k + 1, by go_num, by omega, ⟨by rw [HQ.out, HEQ.out]; rfl⟩, ⟨below_step HBQ.out HB7.out⟩⟩
theorem rcheck_any (A : Option Addr) (n c : Nat) (m : List S36) (w : World) (hn : n = m.length) (hr : Kd.C k36 w A m.length m) (hc : n ≤ c) (hs : Short m) :
    Calls Try.prog 38 #[.slice A n c] w fun e w' => e = .returned (.int .i64 (rCheck m)) ∧ Below w.heap.size w w' := by
  subst hn
  have HR := Aside0.mk hr
  have HS := Aside0.mk hs
  clear hr hs
  go_enter Try.func38, Try.ntmps38
  by_cases h1 : 1 ≤ m.length
  rotate_left
  · have HV : Aside0 (rCheck m = 170) := ⟨by unfold rCheck; rw [decide_eq_false h1]; rfl⟩
    have d1 : decide ((m.length : Int) < 1) = true := decide_eq_true (by omega)
    clear h1
    go_wp2_with fail
    go_returns
    exact ⟨by rw [HV.out]; rfl, Below.refl _ _⟩
  have d1 : decide ((m.length : Int) < 1) = false := decide_eq_false (by omega)
  by_cases h2 : m.length ≤ 16
  rotate_left
  · have HV : Aside0 (rCheck m = 170) := ⟨by unfold rCheck; rw [decide_eq_true h1, decide_eq_false h2]; rfl⟩
    have d2 : decide ((16 : Int) < (m.length : Int)) = true := decide_eq_true (by omega)
    clear h1 h2
    go_wp2_with fail
    go_returns
    exact ⟨by rw [HV.out]; rfl, Below.refl _ _⟩
  have d2 : decide ((16 : Int) < (m.length : Int)) = false := decide_eq_false (by omega)
  have HV : Aside0 (rCheck m = if rValid m = true then 0 else 170) := ⟨by unfold rCheck; rw [decide_eq_true h1, decide_eq_true h2]; rfl⟩
  clear h1 h2
  go_wp2_with fail
  refine (rvalid_any A m.length c m w rfl HR.out hc HS.out).mono ?_
  rintro e w2 ⟨rfl, hB⟩
  have HB2 := Aside0.mk hB
  clear hB
  obtain ⟨b, hb⟩ : ∃ b, b = rValid m := ⟨_, rfl⟩
  rw [← hb] at HV ⊢
  clear hb
  cases b
  all_goals
    go_wp2_with fail
    go_returns
    exact ⟨by rw [HV.out]; rfl, HB2.out⟩
/-- an operation by its place: what is written there, with nothing left to reckon -/
theorem at_ {ops : Array Oper} {i : Nat} {o : Oper} {tl : List Oper} (h : ops.toList.drop i = o :: tl) : ops[i]? = some o := by
  rw [← Array.getElem?_toList]
  have h2 : (ops.toList.drop i)[0]? = some o := by rw [h]; rfl
  rw [List.getElem?_drop] at h2
  simpa using h2
set_option maxRecDepth 100000 in
set_option maxHeartbeats 8000000 in
theorem rsame_any (A B : Option Addr) (n ca m cb : Nat) (a b : List S36) (w : World) (hn : n = a.length) (hm : m = b.length) (ha : Kd.C k36 w A a.length a) (hb : Kd.C k36 w B b.length b) (hl : Short a) :
    Calls Try.prog 27 #[.slice A n ca, .slice B m cb] w fun e w' => e = .returned (.bool (sameBy postE a b)) ∧ Below w.heap.size w w' := by
  subst hn
  subst hm
  have HA := Aside0.mk ha
  have HB := Aside0.mk hb
  have HS := Aside0.mk hl
  have ha6 := hl.1
  clear ha hb hl
  go_enter Try.func27, Try.ntmps27
  by_cases hl : a.length = b.length
  rotate_left
  · have HV := Aside0.mk (sameBy_ne (e := postE) hl)
    have dl : ((a.length : Int) != (b.length : Int)) = true := by rw [bne_iff_ne]; omega
    clear hl
    go_wp2_with fail
    go_returns
    exact ⟨by rw [HV.out]; rfl, Below.refl _ _⟩
  have HL := Aside0.mk hl
  have dl : ((a.length : Int) != (b.length : Int)) = false := by rw [hl]; simp
  clear hl
  go_wp2_with fail
  go_loopw [5] (fun u5 wr => ∃ i : Nat, u5 = .int .i64 (i : Int) ∧ i ≤ a.length ∧ Aside0 (sameBy postE a b = sameBy postE (a.drop i) (b.drop i)) ∧ Aside0 (Below w.heap.size w wr)) (fun u5 _ => a.length - (intOf u5).toNat)
  case atStart => exact ⟨0, rfl, Nat.zero_le _, ⟨rfl⟩, ⟨Below.refl _ _⟩⟩
  case round =>
    obtain ⟨i, rfl, hi, HE, HBR⟩ := hrel
    by_cases hlt : i < a.length
    rotate_left
    · have hd : decide (i < a.length) = false := decide_eq_false hlt
      have HV : Aside0 (sameBy postE a b = true) := ⟨by rw [HE.out, sameBy_end (by omega) (by rw [← HL.out]; omega)]⟩
      go_wp2_with fail
      go_returns
      exact ⟨by rw [HV.out]; rfl, HBR.out⟩
    have hd : decide (i < a.length) = true := decide_eq_true hlt
    have hlt2 : i < b.length := by rw [← HL.out]; exact hlt
    obtain ⟨ad, x, A1, c1, A2, c2, rfl, hx, p0, p1, p2, l1, g1, l2, g2⟩ := post_at (Kd.C_below HA.out HBR.out) i hlt
    obtain ⟨bd, y, B1, d1, B2, d2, rfl, hy, q0, q1, q2, l3, g3, l4, g4⟩ := post_at (Kd.C_below HB.out HBR.out) i hlt2
    have HST := Aside0.mk (sameBy_drop (e := postE) hx hy)
    have HSX := Aside0.mk (HS.out.2 x (List.mem_of_getElem? hx))
    have G1 := Aside0.mk g1
    have G2 := Aside0.mk g2
    have G3 := Aside0.mk g3
    have G4 := Aside0.mk g4
    have i0 : (0 : Int) ≤ (i : Int) := by omega
    have i1 : (i : Int) < (a.length : Int) := by omega
    have i3 : (i : Int) < (b.length : Int) := by omega
    obtain ⟨u, hu⟩ : ∃ u, u = x.f0 := ⟨_, rfl⟩
    obtain ⟨v, hv⟩ : ∃ v, v = y.f0 := ⟨_, rfl⟩
    rw [← hu] at p0
    rw [← hv] at q0
    have HPE : Aside0 (postE x y = ((u == v) && (sameBy hintE x.f1 y.f1 && sameBy hintE x.f2 y.f2))) := ⟨by unfold postE; rw [hu, hv]⟩
    clear hx hy g1 g2 g3 g4 hu hv
    have HSB : Aside0 (∀ w', Below wr.heap.size wr w' → (w'.cell? (ad.add (i * 3)) = some (.bool u) ∧ w'.cell? ⟨(ad.add (i * 3)).block, (ad.add (i * 3)).off + 1, none⟩ = some (.slice A1 x.f1.length c1) ∧ w'.cell? ⟨(ad.add (i * 3)).block, (ad.add (i * 3)).off + 2, none⟩ = some (.slice A2 x.f2.length c2) ∧ w'.cell? (bd.add (i * 3)) = some (.bool v) ∧ w'.cell? ⟨(bd.add (i * 3)).block, (bd.add (i * 3)).off + 1, none⟩ = some (.slice B1 y.f1.length d1) ∧ w'.cell? ⟨(bd.add (i * 3)).block, (bd.add (i * 3)).off + 2, none⟩ = some (.slice B2 y.f2.length d2))) := ⟨fun w' hb => ⟨cell_below hb p0, cell_below hb p1, cell_below hb p2, cell_below hb q0, cell_below hb q1, cell_below hb q2⟩⟩
    obtain ⟨s1, hs1⟩ : ∃ b, b = sameBy hintE x.f1 y.f1 := ⟨_, rfl⟩
    rw [← hs1] at HPE
    have HS1 := Aside0.mk hs1
    clear hs1
    go_upto_region 6 with fail
    go_cut [55] (fun u55 wx => u55 = .bool (!postE x y) ∧ Aside0 (Below wr.heap.size wr wx))
    case first =>
      have key : (u = false ∧ v = true) ∨ (u = true ∧ v = false) ∨ (u = false ∧ v = false ∧ s1 = false) ∨ (u = true ∧ v = true ∧ s1 = false) ∨ (u = false ∧ v = false ∧ s1 = true) ∨ (u = true ∧ v = true ∧ s1 = true) := by cases u <;> cases v <;> cases s1 <;> simp
      rcases key with ⟨rfl, rfl⟩ | ⟨rfl, rfl⟩ | ⟨rfl, rfl, rfl⟩ | ⟨rfl, rfl, rfl⟩ | ⟨rfl, rfl, rfl⟩ | ⟨rfl, rfl, rfl⟩
      · have HP2 : Aside0 (postE x y = false) := ⟨by rw [HPE.out]; rfl⟩
        go_region
        all_goals
          go_wp2_with fail
          go_meet
          case rel => exact ⟨by rw [HP2.out]; rfl, ⟨by repeat (first | exact Below.refl _ _ | refine below_drew ?_)⟩⟩
      · have HP2 : Aside0 (postE x y = false) := ⟨by rw [HPE.out]; rfl⟩
        go_region
        all_goals
          go_wp2_with fail
          go_meet
          case rel => exact ⟨by rw [HP2.out]; rfl, ⟨by repeat (first | exact Below.refl _ _ | refine below_drew ?_)⟩⟩
      · have HP2 : Aside0 (postE x y = false) := ⟨by rw [HPE.out]; rfl⟩
        clear p0 p1 p2 q0 q1 q2
        refine wp_region_held_drew (S := (fun w' : World => w'.cell? (ad.add (i * 3)) = some (.bool false) ∧ w'.cell? ⟨(ad.add (i * 3)).block, (ad.add (i * 3)).off + 1, none⟩ = some (.slice A1 x.f1.length c1) ∧ w'.cell? ⟨(ad.add (i * 3)).block, (ad.add (i * 3)).off + 2, none⟩ = some (.slice A2 x.f2.length c2) ∧ w'.cell? (bd.add (i * 3)) = some (.bool false) ∧ w'.cell? ⟨(bd.add (i * 3)).block, (bd.add (i * 3)).off + 1, none⟩ = some (.slice B1 y.f1.length d1) ∧ w'.cell? ⟨(bd.add (i * 3)).block, (bd.add (i * 3)).off + 2, none⟩ = some (.slice B2 y.f2.length d2))) (by kernel_rfl) ?_ (fun hHeld => ?_)
        · exact HSB.out _ (below_drew (Below.refl _ _))
        refine wpAnyH_take (i := 0) (v := ?_) (at_ rfl) (by kernel_rfl) (by kernel_rfl) (by kernel_rfl) (fun _ _ _ h => h) (Or.inl ⟨by rfl, ?_⟩) (by assumption) ?_
        rotate_left 1
        · intro wq hSw
          (try dsimp only at hSw)
          go_simp
          all_goals with_reducible rfl
        (try simp only [Act.put, List.setIfInBounds_toArray, List.set_cons_zero, List.set_cons_succ])
        refine wpAnyH_take (i := 1) (v := ?_) (at_ rfl) (by kernel_rfl) (by kernel_rfl) (by kernel_rfl) (fun _ _ _ h => h) (Or.inl ⟨by rfl, ?_⟩) (by assumption) ?_
        rotate_left 1
        · intro wq hSw
          (try dsimp only at hSw)
          go_simp
          all_goals with_reducible rfl
        (try simp only [Act.put, List.setIfInBounds_toArray, List.set_cons_zero, List.set_cons_succ])
        refine wpAnyH_take (i := 2) (v := ?_) (at_ rfl) (by kernel_rfl) (by kernel_rfl) (by kernel_rfl) (fun _ _ _ h => h) (Or.inl ⟨by rfl, ?_⟩) (by assumption) ?_
        rotate_left 1
        · intro wq hSw
          (try dsimp only at hSw)
          go_simp
          all_goals with_reducible rfl
        (try simp only [Act.put, List.setIfInBounds_toArray, List.set_cons_zero, List.set_cons_succ])
        refine wpAnyH_take (i := 3) (v := ?_) (at_ rfl) (by kernel_rfl) (by kernel_rfl) (by kernel_rfl) (fun _ _ _ h => h) (Or.inl ⟨by rfl, ?_⟩) (by assumption) ?_
        rotate_left 1
        · intro wq hSw
          (try dsimp only at hSw)
          go_simp
          all_goals with_reducible rfl
        (try simp only [Act.put, List.setIfInBounds_toArray, List.set_cons_zero, List.set_cons_succ])
        refine wpAnyH_take (i := 4) (v := ?_) (at_ rfl) (by kernel_rfl) (by kernel_rfl) (by kernel_rfl) (fun _ _ _ h => h) (Or.inl ⟨by rfl, ?_⟩) (by assumption) ?_
        rotate_left 1
        · intro wq hSw
          (try dsimp only at hSw)
          go_simp
          all_goals with_reducible rfl
        (try simp only [Act.put, List.setIfInBounds_toArray, List.set_cons_zero, List.set_cons_succ])
        refine wpAnyH_take (i := 5) (v := ?_) (at_ rfl) (by kernel_rfl) (by kernel_rfl) (by kernel_rfl) (fun _ _ _ h => h) (Or.inl ⟨by rfl, ?_⟩) (by assumption) ?_
        rotate_left 1
        · intro wq hSw
          (try dsimp only at hSw)
          go_simp
          all_goals with_reducible rfl
        (try simp only [Act.put, List.setIfInBounds_toArray, List.set_cons_zero, List.set_cons_succ])
        refine wpAnyH_take (i := 6) (v := ?_) (at_ rfl) (by kernel_rfl) (by kernel_rfl) (by kernel_rfl) (fun _ _ _ h => h) (Or.inl ⟨by rfl, ?_⟩) (by assumption) ?_
        rotate_left 1
        · intro wq hSw
          (try dsimp only at hSw)
          go_simp
          all_goals with_reducible rfl
        (try simp only [Act.put, List.setIfInBounds_toArray, List.set_cons_zero, List.set_cons_succ])
        refine wpAnyH_take (i := 7) (v := ?_) (at_ rfl) (by kernel_rfl) (by kernel_rfl) (by kernel_rfl) (fun _ _ _ h => h) (Or.inl ⟨by rfl, ?_⟩) (by assumption) ?_
        rotate_left 1
        · intro wq hSw
          (try dsimp only at hSw)
          go_simp
          all_goals with_reducible rfl
        (try simp only [Act.put, List.setIfInBounds_toArray, List.set_cons_zero, List.set_cons_succ])
        refine wpAnyH_take (i := 8) (v := ?_) (at_ rfl) (by kernel_rfl) (by kernel_rfl) (by kernel_rfl) (fun _ _ _ h => h) (Or.inl ⟨by rfl, ?_⟩) (by assumption) ?_
        rotate_left 1
        · intro wq hSw
          (try dsimp only at hSw)
          go_simp
          all_goals with_reducible rfl
        (try simp only [Act.put, List.setIfInBounds_toArray, List.set_cons_zero, List.set_cons_succ])
        refine wpAnyH_take (i := 9) (v := ?_) (at_ rfl) (by kernel_rfl) (by kernel_rfl) (by kernel_rfl) (fun _ _ _ h => h) (Or.inl ⟨by rfl, ?_⟩) (by assumption) ?_
        rotate_left 1
        · intro wq hSw
          (try dsimp only at hSw)
          go_simp
          all_goals with_reducible rfl
        (try simp only [Act.put, List.setIfInBounds_toArray, List.set_cons_zero, List.set_cons_succ])
        refine wpAnyH_take (i := 10) (v := ?_) (at_ rfl) (by kernel_rfl) (by kernel_rfl) (by kernel_rfl) (fun _ _ _ h => h) (Or.inl ⟨by rfl, ?_⟩) (by assumption) ?_
        rotate_left 1
        · intro wq hSw
          (try dsimp only at hSw)
          go_simp
          all_goals with_reducible rfl
        (try simp only [Act.put, List.setIfInBounds_toArray, List.set_cons_zero, List.set_cons_succ])
        refine wpAnyH_take (i := 11) (v := ?_) (at_ rfl) (by kernel_rfl) (by kernel_rfl) (by kernel_rfl) (fun _ _ _ h => h) (Or.inl ⟨by rfl, ?_⟩) (by assumption) ?_
        rotate_left 1
        · intro wq hSw
          (try dsimp only at hSw)
          go_simp
          all_goals with_reducible rfl
        (try simp only [Act.put, List.setIfInBounds_toArray, List.set_cons_zero, List.set_cons_succ])
        refine wpAnyH_take (i := 12) (v := ?_) (at_ rfl) (by kernel_rfl) (by kernel_rfl) (by kernel_rfl) (fun _ _ _ h => h) (Or.inl ⟨by rfl, ?_⟩) (by assumption) ?_
        rotate_left 1
        · intro wq hSw
          (try dsimp only at hSw)
          go_simp
          all_goals with_reducible rfl
        (try simp only [Act.put, List.setIfInBounds_toArray, List.set_cons_zero, List.set_cons_succ])
        refine wpAnyH_take (i := 13) (v := ?_) (at_ rfl) (by kernel_rfl) (by kernel_rfl) (by kernel_rfl) (fun _ _ _ h => h) (Or.inl ⟨by rfl, ?_⟩) (by assumption) ?_
        rotate_left 1
        · intro wq hSw
          (try dsimp only at hSw)
          go_simp
          all_goals with_reducible rfl
        (try simp only [Act.put, List.setIfInBounds_toArray, List.set_cons_zero, List.set_cons_succ])
        refine wpAnyH_take (i := 14) (v := ?_) (at_ rfl) (by kernel_rfl) (by kernel_rfl) (by kernel_rfl) (fun _ _ _ h => h) (Or.inl ⟨by rfl, ?_⟩) (by assumption) ?_
        rotate_left 1
        · intro wq hSw
          (try dsimp only at hSw)
          go_simp
          all_goals with_reducible rfl
        (try simp only [Act.put, List.setIfInBounds_toArray, List.set_cons_zero, List.set_cons_succ])
        refine wpAnyH_take (i := 15) (v := ?_) (at_ rfl) (by kernel_rfl) (by kernel_rfl) (by kernel_rfl) (fun _ _ _ h => h) (Or.inl ⟨by rfl, ?_⟩) (by assumption) ?_
        rotate_left 1
        · intro wq hSw
          (try dsimp only at hSw)
          go_simp
          all_goals with_reducible rfl
        (try simp only [Act.put, List.setIfInBounds_toArray, List.set_cons_zero, List.set_cons_succ])
        refine wpAnyH_take (i := 16) (v := ?_) (at_ rfl) (by kernel_rfl) (by kernel_rfl) (by kernel_rfl) (fun _ _ _ h => h) (Or.inl ⟨by rfl, ?_⟩) (by assumption) ?_
        rotate_left 1
        · intro wq hSw
          (try dsimp only at hSw)
          go_simp
          all_goals with_reducible rfl
        (try simp only [Act.put, List.setIfInBounds_toArray, List.set_cons_zero, List.set_cons_succ])
        refine wpAnyH_take (i := 17) (v := ?_) (at_ rfl) (by kernel_rfl) (by kernel_rfl) (by kernel_rfl) (fun _ _ _ h => h) (Or.inl ⟨by rfl, ?_⟩) (by assumption) ?_
        rotate_left 1
        · intro wq hSw
          (try dsimp only at hSw)
          go_simp
          all_goals with_reducible rfl
        (try simp only [Act.put, List.setIfInBounds_toArray, List.set_cons_zero, List.set_cons_succ])
        refine wpAnyH_take (i := 18) (v := ?_) (at_ rfl) (by kernel_rfl) (by kernel_rfl) (by kernel_rfl) (fun _ _ _ h => h) (Or.inl ⟨by rfl, ?_⟩) (by assumption) ?_
        rotate_left 1
        · intro wq hSw
          (try dsimp only at hSw)
          go_simp
          all_goals with_reducible rfl
        (try simp only [Act.put, List.setIfInBounds_toArray, List.set_cons_zero, List.set_cons_succ])
        refine wpAnyH_take (i := 19) (v := ?_) (at_ rfl) (by kernel_rfl) (by kernel_rfl) (by kernel_rfl) (fun _ _ _ h => h) (Or.inl ⟨by rfl, ?_⟩) (by assumption) ?_
        rotate_left 1
        · intro wq hSw
          (try dsimp only at hSw)
          go_simp
          all_goals with_reducible rfl
        (try simp only [Act.put, List.setIfInBounds_toArray, List.set_cons_zero, List.set_cons_succ])
        refine wpAnyH_take (i := 20) (v := ?_) (at_ rfl) (by kernel_rfl) (by kernel_rfl) (by kernel_rfl) (fun _ _ _ h => h) (Or.inl ⟨by rfl, ?_⟩) (by assumption) ?_
        rotate_left 1
        · intro wq hSw
          (try dsimp only at hSw)
          go_simp
          all_goals with_reducible rfl
        (try simp only [Act.put, List.setIfInBounds_toArray, List.set_cons_zero, List.set_cons_succ])
        refine wpAnyH_take (i := 21) (v := ?_) (at_ rfl) (by kernel_rfl) (by kernel_rfl) (by kernel_rfl) (fun _ _ _ h => h) (Or.inl ⟨by rfl, ?_⟩) (by assumption) ?_
        rotate_left 1
        · intro wq hSw
          (try dsimp only at hSw)
          go_simp
          all_goals with_reducible rfl
        (try simp only [Act.put, List.setIfInBounds_toArray, List.set_cons_zero, List.set_cons_succ])
        refine wpAnyH_ready (rs := [22]) (by kernel_rfl) (by simp) ?_
        refine AllReadyH.cons (at_ rfl) (fun K hK => ?_) AllReadyH.nil
        go_simp
        go_at_call 50
        refine (SameHints_any A1 B1 x.f1.length c1 y.f1.length d1 x.f1 y.f1 _ rfl rfl (Kd.C_below G1.out (by repeat (first | exact Below.refl _ _ | refine below_drew ?_))) (Kd.C_below G3.out (by repeat (first | exact Below.refl _ _ | refine below_drew ?_))) HSX.out.1).mono ?_
        rintro e6 w6 ⟨rfl, hB⟩
        rw [← HS1.out]
        have HB6 : Aside0 (Below wr.heap.size wr w6) := ⟨below_step (by repeat (first | exact Below.refl _ _ | refine below_drew ?_)) hB⟩
        clear hB
        refine hK.out _ _ ?_ (fun hHeld2 => ?_)
        · exact HSB.out _ HB6.out
        clear hK K
        (try simp only [Act.put, List.setIfInBounds_toArray, List.set_cons_zero, List.set_cons_succ])
        refine wpAnyH_take (i := 23) (v := ?_) (at_ rfl) (by kernel_rfl) (by kernel_rfl) (by kernel_rfl) (fun _ _ _ h => h) (Or.inl ⟨by rfl, ?_⟩) (by assumption) ?_
        rotate_left 1
        · intro wq hSw
          (try dsimp only at hSw)
          go_simp
          all_goals with_reducible rfl
        (try simp only [Act.put, List.setIfInBounds_toArray, List.set_cons_zero, List.set_cons_succ])
        refine wpAnyH_take (i := 24) (v := ?_) (at_ rfl) (by kernel_rfl) (by kernel_rfl) (by kernel_rfl) (fun _ _ _ h => h) (Or.inl ⟨by rfl, ?_⟩) (by assumption) ?_
        rotate_left 1
        · intro wq hSw
          (try dsimp only at hSw)
          go_simp
          all_goals with_reducible rfl
        (try simp only [Act.put, List.setIfInBounds_toArray, List.set_cons_zero, List.set_cons_succ])
        refine wpAnyH_take (i := 25) (v := ?_) (at_ rfl) (by kernel_rfl) (by kernel_rfl) (by kernel_rfl) (fun _ _ _ h => h) (Or.inl ⟨by rfl, ?_⟩) (by assumption) ?_
        rotate_left 1
        · intro wq hSw
          (try dsimp only at hSw)
          go_simp
          all_goals with_reducible rfl
        (try simp only [Act.put, List.setIfInBounds_toArray, List.set_cons_zero, List.set_cons_succ])
        refine wpAnyH_take (i := 26) (v := undef) (at_ rfl) (by kernel_rfl) (by kernel_rfl) (by kernel_rfl) (fun _ _ _ h => h) (Or.inr ⟨by rfl, rfl⟩) (by assumption) ?_
        (try simp only [Act.put, List.setIfInBounds_toArray, List.set_cons_zero, List.set_cons_succ])
        refine wpAnyH_take (i := 27) (v := undef) (at_ rfl) (by kernel_rfl) (by kernel_rfl) (by kernel_rfl) (fun _ _ _ h => h) (Or.inr ⟨by rfl, rfl⟩) (by assumption) ?_
        (try simp only [Act.put, List.setIfInBounds_toArray, List.set_cons_zero, List.set_cons_succ])
        refine wpAnyH_take (i := 28) (v := undef) (at_ rfl) (by kernel_rfl) (by kernel_rfl) (by kernel_rfl) (fun _ _ _ h => h) (Or.inr ⟨by rfl, rfl⟩) (by assumption) ?_
        (try simp only [Act.put, List.setIfInBounds_toArray, List.set_cons_zero, List.set_cons_succ])
        refine wpAnyH_take (i := 29) (v := undef) (at_ rfl) (by kernel_rfl) (by kernel_rfl) (by kernel_rfl) (fun _ _ _ h => h) (Or.inr ⟨by rfl, rfl⟩) (by assumption) ?_
        (try simp only [Act.put, List.setIfInBounds_toArray, List.set_cons_zero, List.set_cons_succ])
        refine wpAnyH_take (i := 30) (v := undef) (at_ rfl) (by kernel_rfl) (by kernel_rfl) (by kernel_rfl) (fun _ _ _ h => h) (Or.inr ⟨by rfl, rfl⟩) (by assumption) ?_
        (try simp only [Act.put, List.setIfInBounds_toArray, List.set_cons_zero, List.set_cons_succ])
        refine wpAnyH_take (i := 31) (v := undef) (at_ rfl) (by kernel_rfl) (by kernel_rfl) (by kernel_rfl) (fun _ _ _ h => h) (Or.inr ⟨by rfl, rfl⟩) (by assumption) ?_
        (try simp only [Act.put, List.setIfInBounds_toArray, List.set_cons_zero, List.set_cons_succ])
        refine wpAnyH_take (i := 32) (v := undef) (at_ rfl) (by kernel_rfl) (by kernel_rfl) (by kernel_rfl) (fun _ _ _ h => h) (Or.inr ⟨by rfl, rfl⟩) (by assumption) ?_
        (try simp only [Act.put, List.setIfInBounds_toArray, List.set_cons_zero, List.set_cons_succ])
        refine wpAnyH_take (i := 33) (v := undef) (at_ rfl) (by kernel_rfl) (by kernel_rfl) (by kernel_rfl) (fun _ _ _ h => h) (Or.inr ⟨by rfl, rfl⟩) (by assumption) ?_
        (try simp only [Act.put, List.setIfInBounds_toArray, List.set_cons_zero, List.set_cons_succ])
        refine wpAnyH_take (i := 34) (v := undef) (at_ rfl) (by kernel_rfl) (by kernel_rfl) (by kernel_rfl) (fun _ _ _ h => h) (Or.inr ⟨by rfl, rfl⟩) (by assumption) ?_
        (try simp only [Act.put, List.setIfInBounds_toArray, List.set_cons_zero, List.set_cons_succ])
        refine wpAnyH_take (i := 35) (v := undef) (at_ rfl) (by kernel_rfl) (by kernel_rfl) (by kernel_rfl) (fun _ _ _ h => h) (Or.inr ⟨by rfl, rfl⟩) (by assumption) ?_
        (try simp only [Act.put, List.setIfInBounds_toArray, List.set_cons_zero, List.set_cons_succ])
        refine wpAnyH_take (i := 36) (v := undef) (at_ rfl) (by kernel_rfl) (by kernel_rfl) (by kernel_rfl) (fun _ _ _ h => h) (Or.inr ⟨by rfl, rfl⟩) (by assumption) ?_
        (try simp only [Act.put, List.setIfInBounds_toArray, List.set_cons_zero, List.set_cons_succ])
        refine wpAnyH_take (i := 37) (v := undef) (at_ rfl) (by kernel_rfl) (by kernel_rfl) (by kernel_rfl) (fun _ _ _ h => h) (Or.inr ⟨by rfl, rfl⟩) (by assumption) ?_
        (try simp only [Act.put, List.setIfInBounds_toArray, List.set_cons_zero, List.set_cons_succ])
        refine wpAnyH_take (i := 38) (v := ?_) (at_ rfl) (by kernel_rfl) (by kernel_rfl) (by kernel_rfl) (fun _ _ _ h => h) (Or.inl ⟨by rfl, ?_⟩) (by assumption) ?_
        rotate_left 1
        · intro wq hSw
          (try dsimp only at hSw)
          go_simp
          all_goals with_reducible rfl
        (try simp only [Act.put, List.setIfInBounds_toArray, List.set_cons_zero, List.set_cons_succ])
        refine wpAnyH_done (by kernel_rfl) ?_ _
        go_wp2_with fail
        go_meet
        case rel => exact ⟨by rw [HP2.out]; rfl, HB6⟩
      · have HP2 : Aside0 (postE x y = false) := ⟨by rw [HPE.out]; rfl⟩
        clear p0 p1 p2 q0 q1 q2
        refine wp_region_held_drew (S := (fun w' : World => w'.cell? (ad.add (i * 3)) = some (.bool true) ∧ w'.cell? ⟨(ad.add (i * 3)).block, (ad.add (i * 3)).off + 1, none⟩ = some (.slice A1 x.f1.length c1) ∧ w'.cell? ⟨(ad.add (i * 3)).block, (ad.add (i * 3)).off + 2, none⟩ = some (.slice A2 x.f2.length c2) ∧ w'.cell? (bd.add (i * 3)) = some (.bool true) ∧ w'.cell? ⟨(bd.add (i * 3)).block, (bd.add (i * 3)).off + 1, none⟩ = some (.slice B1 y.f1.length d1) ∧ w'.cell? ⟨(bd.add (i * 3)).block, (bd.add (i * 3)).off + 2, none⟩ = some (.slice B2 y.f2.length d2))) (by kernel_rfl) ?_ (fun hHeld => ?_)
        · exact HSB.out _ (below_drew (Below.refl _ _))
        refine wpAnyH_take (i := 0) (v := ?_) (at_ rfl) (by kernel_rfl) (by kernel_rfl) (by kernel_rfl) (fun _ _ _ h => h) (Or.inl ⟨by rfl, ?_⟩) (by assumption) ?_
        rotate_left 1
        · intro wq hSw
          (try dsimp only at hSw)
          go_simp
          all_goals with_reducible rfl
        (try simp only [Act.put, List.setIfInBounds_toArray, List.set_cons_zero, List.set_cons_succ])
        refine wpAnyH_take (i := 1) (v := ?_) (at_ rfl) (by kernel_rfl) (by kernel_rfl) (by kernel_rfl) (fun _ _ _ h => h) (Or.inl ⟨by rfl, ?_⟩) (by assumption) ?_
        rotate_left 1
        · intro wq hSw
          (try dsimp only at hSw)
          go_simp
          all_goals with_reducible rfl
        (try simp only [Act.put, List.setIfInBounds_toArray, List.set_cons_zero, List.set_cons_succ])
        refine wpAnyH_take (i := 2) (v := ?_) (at_ rfl) (by kernel_rfl) (by kernel_rfl) (by kernel_rfl) (fun _ _ _ h => h) (Or.inl ⟨by rfl, ?_⟩) (by assumption) ?_
        rotate_left 1
        · intro wq hSw
          (try dsimp only at hSw)
          go_simp
          all_goals with_reducible rfl
        (try simp only [Act.put, List.setIfInBounds_toArray, List.set_cons_zero, List.set_cons_succ])
        refine wpAnyH_take (i := 3) (v := ?_) (at_ rfl) (by kernel_rfl) (by kernel_rfl) (by kernel_rfl) (fun _ _ _ h => h) (Or.inl ⟨by rfl, ?_⟩) (by assumption) ?_
        rotate_left 1
        · intro wq hSw
          (try dsimp only at hSw)
          go_simp
          all_goals with_reducible rfl
        (try simp only [Act.put, List.setIfInBounds_toArray, List.set_cons_zero, List.set_cons_succ])
        refine wpAnyH_take (i := 4) (v := ?_) (at_ rfl) (by kernel_rfl) (by kernel_rfl) (by kernel_rfl) (fun _ _ _ h => h) (Or.inl ⟨by rfl, ?_⟩) (by assumption) ?_
        rotate_left 1
        · intro wq hSw
          (try dsimp only at hSw)
          go_simp
          all_goals with_reducible rfl
        (try simp only [Act.put, List.setIfInBounds_toArray, List.set_cons_zero, List.set_cons_succ])
        refine wpAnyH_take (i := 5) (v := ?_) (at_ rfl) (by kernel_rfl) (by kernel_rfl) (by kernel_rfl) (fun _ _ _ h => h) (Or.inl ⟨by rfl, ?_⟩) (by assumption) ?_
        rotate_left 1
        · intro wq hSw
          (try dsimp only at hSw)
          go_simp
          all_goals with_reducible rfl
        (try simp only [Act.put, List.setIfInBounds_toArray, List.set_cons_zero, List.set_cons_succ])
        refine wpAnyH_take (i := 6) (v := ?_) (at_ rfl) (by kernel_rfl) (by kernel_rfl) (by kernel_rfl) (fun _ _ _ h => h) (Or.inl ⟨by rfl, ?_⟩) (by assumption) ?_
        rotate_left 1
        · intro wq hSw
          (try dsimp only at hSw)
          go_simp
          all_goals with_reducible rfl
        (try simp only [Act.put, List.setIfInBounds_toArray, List.set_cons_zero, List.set_cons_succ])
        refine wpAnyH_take (i := 7) (v := ?_) (at_ rfl) (by kernel_rfl) (by kernel_rfl) (by kernel_rfl) (fun _ _ _ h => h) (Or.inl ⟨by rfl, ?_⟩) (by assumption) ?_
        rotate_left 1
        · intro wq hSw
          (try dsimp only at hSw)
          go_simp
          all_goals with_reducible rfl
        (try simp only [Act.put, List.setIfInBounds_toArray, List.set_cons_zero, List.set_cons_succ])
        refine wpAnyH_take (i := 8) (v := ?_) (at_ rfl) (by kernel_rfl) (by kernel_rfl) (by kernel_rfl) (fun _ _ _ h => h) (Or.inl ⟨by rfl, ?_⟩) (by assumption) ?_
        rotate_left 1
        · intro wq hSw
          (try dsimp only at hSw)
          go_simp
          all_goals with_reducible rfl
        (try simp only [Act.put, List.setIfInBounds_toArray, List.set_cons_zero, List.set_cons_succ])
        refine wpAnyH_take (i := 9) (v := ?_) (at_ rfl) (by kernel_rfl) (by kernel_rfl) (by kernel_rfl) (fun _ _ _ h => h) (Or.inl ⟨by rfl, ?_⟩) (by assumption) ?_
        rotate_left 1
        · intro wq hSw
          (try dsimp only at hSw)
          go_simp
          all_goals with_reducible rfl
        (try simp only [Act.put, List.setIfInBounds_toArray, List.set_cons_zero, List.set_cons_succ])
        refine wpAnyH_take (i := 10) (v := ?_) (at_ rfl) (by kernel_rfl) (by kernel_rfl) (by kernel_rfl) (fun _ _ _ h => h) (Or.inl ⟨by rfl, ?_⟩) (by assumption) ?_
        rotate_left 1
        · intro wq hSw
          (try dsimp only at hSw)
          go_simp
          all_goals with_reducible rfl
        (try simp only [Act.put, List.setIfInBounds_toArray, List.set_cons_zero, List.set_cons_succ])
        refine wpAnyH_take (i := 11) (v := ?_) (at_ rfl) (by kernel_rfl) (by kernel_rfl) (by kernel_rfl) (fun _ _ _ h => h) (Or.inl ⟨by rfl, ?_⟩) (by assumption) ?_
        rotate_left 1
        · intro wq hSw
          (try dsimp only at hSw)
          go_simp
          all_goals with_reducible rfl
        (try simp only [Act.put, List.setIfInBounds_toArray, List.set_cons_zero, List.set_cons_succ])
        refine wpAnyH_take (i := 12) (v := ?_) (at_ rfl) (by kernel_rfl) (by kernel_rfl) (by kernel_rfl) (fun _ _ _ h => h) (Or.inl ⟨by rfl, ?_⟩) (by assumption) ?_
        rotate_left 1
        · intro wq hSw
          (try dsimp only at hSw)
          go_simp
          all_goals with_reducible rfl
        (try simp only [Act.put, List.setIfInBounds_toArray, List.set_cons_zero, List.set_cons_succ])
        refine wpAnyH_take (i := 13) (v := ?_) (at_ rfl) (by kernel_rfl) (by kernel_rfl) (by kernel_rfl) (fun _ _ _ h => h) (Or.inl ⟨by rfl, ?_⟩) (by assumption) ?_
        rotate_left 1
        · intro wq hSw
          (try dsimp only at hSw)
          go_simp
          all_goals with_reducible rfl
        (try simp only [Act.put, List.setIfInBounds_toArray, List.set_cons_zero, List.set_cons_succ])
        refine wpAnyH_take (i := 14) (v := ?_) (at_ rfl) (by kernel_rfl) (by kernel_rfl) (by kernel_rfl) (fun _ _ _ h => h) (Or.inl ⟨by rfl, ?_⟩) (by assumption) ?_
        rotate_left 1
        · intro wq hSw
          (try dsimp only at hSw)
          go_simp
          all_goals with_reducible rfl
        (try simp only [Act.put, List.setIfInBounds_toArray, List.set_cons_zero, List.set_cons_succ])
        refine wpAnyH_take (i := 15) (v := ?_) (at_ rfl) (by kernel_rfl) (by kernel_rfl) (by kernel_rfl) (fun _ _ _ h => h) (Or.inl ⟨by rfl, ?_⟩) (by assumption) ?_
        rotate_left 1
        · intro wq hSw
          (try dsimp only at hSw)
          go_simp
          all_goals with_reducible rfl
        (try simp only [Act.put, List.setIfInBounds_toArray, List.set_cons_zero, List.set_cons_succ])
        refine wpAnyH_take (i := 16) (v := ?_) (at_ rfl) (by kernel_rfl) (by kernel_rfl) (by kernel_rfl) (fun _ _ _ h => h) (Or.inl ⟨by rfl, ?_⟩) (by assumption) ?_
        rotate_left 1
        · intro wq hSw
          (try dsimp only at hSw)
          go_simp
          all_goals with_reducible rfl
        (try simp only [Act.put, List.setIfInBounds_toArray, List.set_cons_zero, List.set_cons_succ])
        refine wpAnyH_take (i := 17) (v := ?_) (at_ rfl) (by kernel_rfl) (by kernel_rfl) (by kernel_rfl) (fun _ _ _ h => h) (Or.inl ⟨by rfl, ?_⟩) (by assumption) ?_
        rotate_left 1
        · intro wq hSw
          (try dsimp only at hSw)
          go_simp
          all_goals with_reducible rfl
        (try simp only [Act.put, List.setIfInBounds_toArray, List.set_cons_zero, List.set_cons_succ])
        refine wpAnyH_take (i := 18) (v := ?_) (at_ rfl) (by kernel_rfl) (by kernel_rfl) (by kernel_rfl) (fun _ _ _ h => h) (Or.inl ⟨by rfl, ?_⟩) (by assumption) ?_
        rotate_left 1
        · intro wq hSw
          (try dsimp only at hSw)
          go_simp
          all_goals with_reducible rfl
        (try simp only [Act.put, List.setIfInBounds_toArray, List.set_cons_zero, List.set_cons_succ])
        refine wpAnyH_take (i := 19) (v := ?_) (at_ rfl) (by kernel_rfl) (by kernel_rfl) (by kernel_rfl) (fun _ _ _ h => h) (Or.inl ⟨by rfl, ?_⟩) (by assumption) ?_
        rotate_left 1
        · intro wq hSw
          (try dsimp only at hSw)
          go_simp
          all_goals with_reducible rfl
        (try simp only [Act.put, List.setIfInBounds_toArray, List.set_cons_zero, List.set_cons_succ])
        refine wpAnyH_take (i := 20) (v := ?_) (at_ rfl) (by kernel_rfl) (by kernel_rfl) (by kernel_rfl) (fun _ _ _ h => h) (Or.inl ⟨by rfl, ?_⟩) (by assumption) ?_
        rotate_left 1
        · intro wq hSw
          (try dsimp only at hSw)
          go_simp
          all_goals with_reducible rfl
        (try simp only [Act.put, List.setIfInBounds_toArray, List.set_cons_zero, List.set_cons_succ])
        refine wpAnyH_take (i := 21) (v := ?_) (at_ rfl) (by kernel_rfl) (by kernel_rfl) (by kernel_rfl) (fun _ _ _ h => h) (Or.inl ⟨by rfl, ?_⟩) (by assumption) ?_
        rotate_left 1
        · intro wq hSw
          (try dsimp only at hSw)
          go_simp
          all_goals with_reducible rfl
        (try simp only [Act.put, List.setIfInBounds_toArray, List.set_cons_zero, List.set_cons_succ])
        refine wpAnyH_ready (rs := [22]) (by kernel_rfl) (by simp) ?_
        refine AllReadyH.cons (at_ rfl) (fun K hK => ?_) AllReadyH.nil
        go_simp
        go_at_call 50
        refine (SameHints_any A1 B1 x.f1.length c1 y.f1.length d1 x.f1 y.f1 _ rfl rfl (Kd.C_below G1.out (by repeat (first | exact Below.refl _ _ | refine below_drew ?_))) (Kd.C_below G3.out (by repeat (first | exact Below.refl _ _ | refine below_drew ?_))) HSX.out.1).mono ?_
        rintro e6 w6 ⟨rfl, hB⟩
        rw [← HS1.out]
        have HB6 : Aside0 (Below wr.heap.size wr w6) := ⟨below_step (by repeat (first | exact Below.refl _ _ | refine below_drew ?_)) hB⟩
        clear hB
        refine hK.out _ _ ?_ (fun hHeld2 => ?_)
        · exact HSB.out _ HB6.out
        clear hK K
        (try simp only [Act.put, List.setIfInBounds_toArray, List.set_cons_zero, List.set_cons_succ])
        refine wpAnyH_take (i := 23) (v := ?_) (at_ rfl) (by kernel_rfl) (by kernel_rfl) (by kernel_rfl) (fun _ _ _ h => h) (Or.inl ⟨by rfl, ?_⟩) (by assumption) ?_
        rotate_left 1
        · intro wq hSw
          (try dsimp only at hSw)
          go_simp
          all_goals with_reducible rfl
        (try simp only [Act.put, List.setIfInBounds_toArray, List.set_cons_zero, List.set_cons_succ])
        refine wpAnyH_take (i := 24) (v := ?_) (at_ rfl) (by kernel_rfl) (by kernel_rfl) (by kernel_rfl) (fun _ _ _ h => h) (Or.inl ⟨by rfl, ?_⟩) (by assumption) ?_
        rotate_left 1
        · intro wq hSw
          (try dsimp only at hSw)
          go_simp
          all_goals with_reducible rfl
        (try simp only [Act.put, List.setIfInBounds_toArray, List.set_cons_zero, List.set_cons_succ])
        refine wpAnyH_take (i := 25) (v := ?_) (at_ rfl) (by kernel_rfl) (by kernel_rfl) (by kernel_rfl) (fun _ _ _ h => h) (Or.inl ⟨by rfl, ?_⟩) (by assumption) ?_
        rotate_left 1
        · intro wq hSw
          (try dsimp only at hSw)
          go_simp
          all_goals with_reducible rfl
        (try simp only [Act.put, List.setIfInBounds_toArray, List.set_cons_zero, List.set_cons_succ])
        refine wpAnyH_take (i := 26) (v := undef) (at_ rfl) (by kernel_rfl) (by kernel_rfl) (by kernel_rfl) (fun _ _ _ h => h) (Or.inr ⟨by rfl, rfl⟩) (by assumption) ?_
        (try simp only [Act.put, List.setIfInBounds_toArray, List.set_cons_zero, List.set_cons_succ])
        refine wpAnyH_take (i := 27) (v := undef) (at_ rfl) (by kernel_rfl) (by kernel_rfl) (by kernel_rfl) (fun _ _ _ h => h) (Or.inr ⟨by rfl, rfl⟩) (by assumption) ?_
        (try simp only [Act.put, List.setIfInBounds_toArray, List.set_cons_zero, List.set_cons_succ])
        refine wpAnyH_take (i := 28) (v := undef) (at_ rfl) (by kernel_rfl) (by kernel_rfl) (by kernel_rfl) (fun _ _ _ h => h) (Or.inr ⟨by rfl, rfl⟩) (by assumption) ?_
        (try simp only [Act.put, List.setIfInBounds_toArray, List.set_cons_zero, List.set_cons_succ])
        refine wpAnyH_take (i := 29) (v := undef) (at_ rfl) (by kernel_rfl) (by kernel_rfl) (by kernel_rfl) (fun _ _ _ h => h) (Or.inr ⟨by rfl, rfl⟩) (by assumption) ?_
        (try simp only [Act.put, List.setIfInBounds_toArray, List.set_cons_zero, List.set_cons_succ])
        refine wpAnyH_take (i := 30) (v := undef) (at_ rfl) (by kernel_rfl) (by kernel_rfl) (by kernel_rfl) (fun _ _ _ h => h) (Or.inr ⟨by rfl, rfl⟩) (by assumption) ?_
        (try simp only [Act.put, List.setIfInBounds_toArray, List.set_cons_zero, List.set_cons_succ])
        refine wpAnyH_take (i := 31) (v := undef) (at_ rfl) (by kernel_rfl) (by kernel_rfl) (by kernel_rfl) (fun _ _ _ h => h) (Or.inr ⟨by rfl, rfl⟩) (by assumption) ?_
        (try simp only [Act.put, List.setIfInBounds_toArray, List.set_cons_zero, List.set_cons_succ])
        refine wpAnyH_take (i := 32) (v := undef) (at_ rfl) (by kernel_rfl) (by kernel_rfl) (by kernel_rfl) (fun _ _ _ h => h) (Or.inr ⟨by rfl, rfl⟩) (by assumption) ?_
        (try simp only [Act.put, List.setIfInBounds_toArray, List.set_cons_zero, List.set_cons_succ])
        refine wpAnyH_take (i := 33) (v := undef) (at_ rfl) (by kernel_rfl) (by kernel_rfl) (by kernel_rfl) (fun _ _ _ h => h) (Or.inr ⟨by rfl, rfl⟩) (by assumption) ?_
        (try simp only [Act.put, List.setIfInBounds_toArray, List.set_cons_zero, List.set_cons_succ])
        refine wpAnyH_take (i := 34) (v := undef) (at_ rfl) (by kernel_rfl) (by kernel_rfl) (by kernel_rfl) (fun _ _ _ h => h) (Or.inr ⟨by rfl, rfl⟩) (by assumption) ?_
        (try simp only [Act.put, List.setIfInBounds_toArray, List.set_cons_zero, List.set_cons_succ])
        refine wpAnyH_take (i := 35) (v := undef) (at_ rfl) (by kernel_rfl) (by kernel_rfl) (by kernel_rfl) (fun _ _ _ h => h) (Or.inr ⟨by rfl, rfl⟩) (by assumption) ?_
        (try simp only [Act.put, List.setIfInBounds_toArray, List.set_cons_zero, List.set_cons_succ])
        refine wpAnyH_take (i := 36) (v := undef) (at_ rfl) (by kernel_rfl) (by kernel_rfl) (by kernel_rfl) (fun _ _ _ h => h) (Or.inr ⟨by rfl, rfl⟩) (by assumption) ?_
        (try simp only [Act.put, List.setIfInBounds_toArray, List.set_cons_zero, List.set_cons_succ])
        refine wpAnyH_take (i := 37) (v := undef) (at_ rfl) (by kernel_rfl) (by kernel_rfl) (by kernel_rfl) (fun _ _ _ h => h) (Or.inr ⟨by rfl, rfl⟩) (by assumption) ?_
        (try simp only [Act.put, List.setIfInBounds_toArray, List.set_cons_zero, List.set_cons_succ])
        refine wpAnyH_take (i := 38) (v := ?_) (at_ rfl) (by kernel_rfl) (by kernel_rfl) (by kernel_rfl) (fun _ _ _ h => h) (Or.inl ⟨by rfl, ?_⟩) (by assumption) ?_
        rotate_left 1
        · intro wq hSw
          (try dsimp only at hSw)
          go_simp
          all_goals with_reducible rfl
        (try simp only [Act.put, List.setIfInBounds_toArray, List.set_cons_zero, List.set_cons_succ])
        refine wpAnyH_done (by kernel_rfl) ?_ _
        go_wp2_with fail
        go_meet
        case rel => exact ⟨by rw [HP2.out]; rfl, HB6⟩
      · have HP2 : Aside0 (postE x y = sameBy hintE x.f2 y.f2) := ⟨by rw [HPE.out]; rfl⟩
        clear p0 p1 p2 q0 q1 q2
        go_region_held3 (fun w' => w'.cell? (ad.add (i * 3)) = some (.bool false) ∧ w'.cell? ⟨(ad.add (i * 3)).block, (ad.add (i * 3)).off + 1, none⟩ = some (.slice A1 x.f1.length c1) ∧ w'.cell? ⟨(ad.add (i * 3)).block, (ad.add (i * 3)).off + 2, none⟩ = some (.slice A2 x.f2.length c2) ∧ w'.cell? (bd.add (i * 3)) = some (.bool false) ∧ w'.cell? ⟨(bd.add (i * 3)).block, (bd.add (i * 3)).off + 1, none⟩ = some (.slice B1 y.f1.length d1) ∧ w'.cell? ⟨(bd.add (i * 3)).block, (bd.add (i * 3)).off + 2, none⟩ = some (.slice B2 y.f2.length d2)) (exact HSB.out _ (by repeat (first | exact Below.refl _ _ | exact HB7.out | exact HB6.out | refine below_drew ?_))) (first | (go_at_call 50; have hq := HB6.out; refine (SameHints_any A2 B2 x.f2.length c2 y.f2.length d2 x.f2 y.f2 _ rfl rfl (Kd.C_below G2.out hq) (Kd.C_below G4.out hq) HSX.out.2).mono ?_; rintro e7 w7 ⟨rfl, hB⟩; have HB7 : Aside0 (Below wr.heap.size wr w7) := ⟨below_step hq hB⟩; clear hB hq) | (go_at_call 50; refine (SameHints_any A1 B1 x.f1.length c1 y.f1.length d1 x.f1 y.f1 _ rfl rfl (Kd.C_below G1.out (by repeat (first | exact Below.refl _ _ | refine below_drew ?_))) (Kd.C_below G3.out (by repeat (first | exact Below.refl _ _ | refine below_drew ?_))) HSX.out.1).mono ?_; rintro e6 w6 ⟨rfl, hB⟩; rw [← HS1.out]; have HB6 : Aside0 (Below wr.heap.size wr w6) := ⟨below_step (by repeat (first | exact Below.refl _ _ | refine below_drew ?_)) hB⟩; clear hB) | fail)
        all_goals
          go_wp2_with fail
          go_meet
          case rel => exact ⟨by rw [HP2.out], HB7⟩
      · have HP2 : Aside0 (postE x y = sameBy hintE x.f2 y.f2) := ⟨by rw [HPE.out]; rfl⟩
        clear p0 p1 p2 q0 q1 q2
        go_region_held3 (fun w' => w'.cell? (ad.add (i * 3)) = some (.bool true) ∧ w'.cell? ⟨(ad.add (i * 3)).block, (ad.add (i * 3)).off + 1, none⟩ = some (.slice A1 x.f1.length c1) ∧ w'.cell? ⟨(ad.add (i * 3)).block, (ad.add (i * 3)).off + 2, none⟩ = some (.slice A2 x.f2.length c2) ∧ w'.cell? (bd.add (i * 3)) = some (.bool true) ∧ w'.cell? ⟨(bd.add (i * 3)).block, (bd.add (i * 3)).off + 1, none⟩ = some (.slice B1 y.f1.length d1) ∧ w'.cell? ⟨(bd.add (i * 3)).block, (bd.add (i * 3)).off + 2, none⟩ = some (.slice B2 y.f2.length d2)) (exact HSB.out _ (by repeat (first | exact Below.refl _ _ | exact HB7.out | exact HB6.out | refine below_drew ?_))) (first | (go_at_call 50; have hq := HB6.out; refine (SameHints_any A2 B2 x.f2.length c2 y.f2.length d2 x.f2 y.f2 _ rfl rfl (Kd.C_below G2.out hq) (Kd.C_below G4.out hq) HSX.out.2).mono ?_; rintro e7 w7 ⟨rfl, hB⟩; have HB7 : Aside0 (Below wr.heap.size wr w7) := ⟨below_step hq hB⟩; clear hB hq) | (go_at_call 50; refine (SameHints_any A1 B1 x.f1.length c1 y.f1.length d1 x.f1 y.f1 _ rfl rfl (Kd.C_below G1.out (by repeat (first | exact Below.refl _ _ | refine below_drew ?_))) (Kd.C_below G3.out (by repeat (first | exact Below.refl _ _ | refine below_drew ?_))) HSX.out.1).mono ?_; rintro e6 w6 ⟨rfl, hB⟩; rw [← HS1.out]; have HB6 : Aside0 (Below wr.heap.size wr w6) := ⟨below_step (by repeat (first | exact Below.refl _ _ | refine below_drew ?_)) hB⟩; clear hB) | fail)
        all_goals
          go_wp2_with fail
          go_meet
          case rel => exact ⟨by rw [HP2.out], HB7⟩
    case rest =>
      obtain ⟨rfl, HB8⟩ := hcut
      obtain ⟨b2, hb⟩ : ∃ b, b = postE x y := ⟨_, rfl⟩
      rw [← hb] at HST ⊢
      clear hb HPE HSB
      cases b2 with
      | false =>
        have HF : Aside0 (sameBy postE a b = false) := ⟨by rw [HE.out, HST.out]; rfl⟩
        go_wp2_with fail
        go_returns
        exact ⟨by rw [HF.out]; rfl, below_step HBR.out HB8.out⟩
      | true =>
        go_wp2_with fail
        go_roundw
        case measure => simp [intOf]; omega
        case rel => exact ⟨i + 1, by go_num, by omega, ⟨by rw [HE.out, HST.out]; rfl⟩, ⟨below_step HBR.out HB8.out⟩⟩
/-! new maps, bounds -/
theorem rnew_l0 (p : Int) (n : Nat) (hn : n ≤ 16) (hp : p = (n : Int)) : ∀ d i : Nat, i + d = n → ∃ k, berylref17_New.l0 k p (newL i) (i : Int) = some (newL n, 0)
  | 0, i, e => ⟨1, by rw [berylref17_New.l0, if_neg (by omega), show i = n by omega]⟩
  | d + 1, i, e => by
    obtain ⟨k, hk⟩ := rnew_l0 p n hn hp d (i + 1) (by omega)
    refine ⟨k + 1, ?_⟩
    have hl : (newL i).length = i := List.length_replicate
    rw [berylref17_New.l0, if_pos (by omega), hl, if_pos (by omega), show wrap64 ((i : Int) + 1) = ((i + 1 : Nat) : Int) by unfold wrap64; omega, show newL i ++ [⟨true, [], []⟩] = newL (i + 1) from List.replicate_succ'.symm]
    exact hk
theorem rnew_f (p : Int) : ∃ k, berylref17_New.f k p = some (newF p) := by
  unfold newF berylref17_New.f
  by_cases h : 1 ≤ p ∧ p ≤ 16
  · obtain ⟨k, hk⟩ := rnew_l0 p p.toNat (by omega) (by omega) p.toNat 0 (by omega)
    refine ⟨k + 1, ?_⟩
    rw [if_neg (by omega), if_pos h, decide_eq_false (by omega), berylref17_New.j0, if_neg (by simp)]
    exact hk
  · refine ⟨1, ?_⟩
    rw [if_neg h]
    by_cases h1 : p < 1
    · rw [if_pos h1, berylref17_New.j0, if_pos rfl]
    · rw [if_neg h1, decide_eq_true (by omega), berylref17_New.j0, if_pos rfl]
theorem rnew_any (places : Int) (w : World) : Calls Try.prog 36 #[.int .i64 places] w fun e w' => ∃ A c, e = .returned (.tuple #[.slice A (newF places).1.length c, .int .i64 (newF places).2]) ∧ (newF places).1.length ≤ c ∧ Kd.C k36 w' A (newF places).1.length (newF places).1 ∧ Below w.heap.size w w' := by
  obtain ⟨k, hk⟩ := rnew_f places
  refine (berylref17_New.calls k places (newF places).1 (newF places).2 w hk).mono ?_
  rintro e w' ⟨v, rfl, hS, hB⟩
  obtain ⟨A, c, rfl, h1, h2⟩ := Kd.S_reads hS
  exact ⟨A, c, rfl, h1, h2, hB⟩
end Go.Proofs.Ytjnceoohlcchnaa.Print

/-! the reference's valid maps are the valid ones -/
namespace Go.Proofs.Ytjnceoohlcchnaa.Print
open Go Go.RowKit Go.Deep Go.Proofs.YtjnceoohlcchnaaW.PrintWords Go.Proofs.YtjnceoohlcchnaaW.PrintLast Go.Proofs.YtjnceoohlcchnaaW.PrintMore
theorem rati_spec (oid : Int) : ∀ l : List S31, (rAtI oid l < l.length → ∃ g, l[rAtI oid l]? = some g ∧ g ∈ l ∧ g.f0 = oid) ∧ (rAtI oid l = l.length → ∀ h ∈ l, h.f0 ≠ oid)
  | [] => ⟨fun h => by simp [rAtI] at h, fun _ h hh => by cases hh⟩
  | h :: l => by
    obtain ⟨i1, i2⟩ := rati_spec oid l
    unfold rAtI
    by_cases c : h.f0 = oid
    · rw [if_pos c]
      exact ⟨fun _ => ⟨h, rfl, List.mem_cons_self .., c⟩, fun e => by rw [List.length_cons] at e; omega⟩
    · rw [if_neg c, List.length_cons]
      refine ⟨fun e => ?_, fun e x hx => ?_⟩
      · obtain ⟨g, a, b, d⟩ := i1 (by omega)
        exact ⟨g, by rw [List.getElem?_cons_succ]; exact a, List.mem_cons_of_mem _ b, d⟩
      · rcases List.mem_cons.1 hx with rfl | hx
        · exact c
        · exact i2 (by omega) x hx
theorem rget_spec (l : List S31) (oid : Int) : (rGet l oid = none ∧ rAt l oid < 0 ∧ ∀ h ∈ l, h.f0 ≠ oid) ∨ ∃ g, rGet l oid = some g ∧ ¬ rAt l oid < 0 ∧ g ∈ l ∧ g.f0 = oid := by
  obtain ⟨i1, i2⟩ := rati_spec oid l
  have hle := rAtI_le oid l
  unfold rGet rAt
  by_cases c : rAtI oid l < l.length
  · obtain ⟨g, a, b, d⟩ := i1 c
    exact .inr ⟨g, a, by rw [if_pos c]; omega, b, d⟩
  · exact .inl ⟨List.getElem?_eq_none (by omega), by rw [if_neg c]; omega, i2 (by omega)⟩
theorem rat_free (l : List S31) (oid : Int) : decide (rAt l oid < 0) = true ↔ ∀ h ∈ l, h.f0 ≠ oid := by
  rw [decide_eq_true_iff]
  rcases rget_spec l oid with ⟨_, a, b⟩ | ⟨g, _, a, b, c⟩
  · exact ⟨fun _ => b, fun _ => a⟩
  · exact ⟨fun h => absurd h a, fun h => absurd c (h g b)⟩
theorem ralone_is (p i : Int) (x : S36) : rAlone p i x = (postOk p x && x.f1.all (rHere i x)) := by
  unfold rAlone postOk listF
  rw [listR_is, listR_is]
  ac_rfl
theorem ralone_iff (p i : Int) (x : S36) : rAlone p i x = true ↔ PostV p x ∧ (∀ h ∈ x.f1, h.f1 = i ∧ ∀ g ∈ x.f2, g.f0 ≠ h.f0) := by
  rw [ralone_is, Bool.and_eq_true, postOk_iff, List.all_eq_true]
  refine and_congr_right fun _ => ?_
  refine ⟨fun h a ha => ?_, fun h a ha => ?_⟩
  · have := h a ha
    unfold rHere at this
    rw [Bool.and_eq_true, beq_iff_eq, rat_free] at this
    exact this
  · unfold rHere
    rw [Bool.and_eq_true, beq_iff_eq, rat_free]
    exact h a ha
theorem ragree_iff {a b : S31} (h : a.f0 = b.f0) : rAgree a b = true ↔ (a.f2 = b.f2 → a.f1 = b.f1) := by
  unfold rAgree
  rw [h]
  by_cases c : a.f2 = b.f2
  · rw [c]; simp
  · simp [c]
theorem rapart_iff {x y : S36} (sx : Sorted y.f1) (sy : Sorted y.f2) : rApart x y = true ↔ (∀ g ∈ x.f1, ∀ h ∈ y.f1, h.f0 ≠ g.f0) ∧ (∀ h ∈ x.f2, (∀ g ∈ y.f1, g.f0 = h.f0 → h.f2 < g.f2 ∨ h.f2 = g.f2 ∧ h.f1 = g.f1) ∧ (∀ g ∈ y.f2, g.f0 = h.f0 → g.f2 = h.f2 → g.f1 = h.f1)) := by
  unfold rApart
  rw [Bool.and_eq_true, List.all_eq_true, List.all_eq_true]
  refine and_congr ?_ ?_
  · exact ⟨fun h g hg => (rat_free _ _).1 (h g hg), fun h g hg => (rat_free _ _).2 (h g hg)⟩
  · refine forall_congr' fun h => forall_congr' fun hh => ?_
    unfold rSays
    rw [Bool.and_eq_true]
    refine and_congr ?_ ?_
    · unfold rCA
      rcases rget_spec y.f1 h.f0 with ⟨e, _, b⟩ | ⟨g, e, _, b, c⟩
      · rw [e]
        exact ⟨fun _ g hg q => absurd q (b g hg), fun _ => rfl⟩
      · rw [e]
        dsimp only
        rw [Bool.and_eq_true, ragree_iff c, Bool.not_eq_true', decide_eq_false_iff_not]
        constructor
        · rintro ⟨d1, d2⟩ g' hg' q
          have := sorted_eq sx hg' b (by rw [q, c])
          subst this
          by_cases k : g'.f2 = h.f2
          · exact .inr ⟨k.symm, (d2 k).symm⟩
          · left; omega
        · intro q
          rcases q g b c with d | ⟨d1, d2⟩
          · exact ⟨by omega, fun e => by omega⟩
          · exact ⟨by omega, fun _ => d2.symm⟩
    · unfold rCB
      rcases rget_spec y.f2 h.f0 with ⟨e, _, b⟩ | ⟨g, e, _, b, c⟩
      · rw [e]
        exact ⟨fun _ g hg q => absurd q (b g hg), fun _ => rfl⟩
      · rw [e]
        dsimp only
        rw [ragree_iff c]
        constructor
        · intro d g' hg' q
          have := sorted_eq sy hg' b (by rw [q, c])
          subst this
          exact d
        · intro q
          exact q g b c
theorem ral_iff (p : Int) : ∀ (l : List S36) (i : Nat), rAl p i l = true ↔ ∀ (j : Nat) x, l[j]? = some x → rAlone p ((i + j : Nat) : Int) x = true
  | [], i => ⟨fun _ j x h => (by cases h), fun _ => rfl⟩
  | y :: l, i => by
    unfold rAl
    rw [Bool.and_eq_true, ral_iff p l (i + 1)]
    constructor
    · rintro ⟨a, b⟩ j x h
      cases j with
      | zero => cases h; exact a
      | succ j =>
        rw [List.getElem?_cons_succ] at h
        have := b j x h
        rwa [show i + (j + 1) = i + 1 + j by omega]
    · intro h
      refine ⟨h 0 y rfl, fun j x hj => ?_⟩
      have := h (j + 1) x (by rw [List.getElem?_cons_succ]; exact hj)
      rwa [show i + (j + 1) = i + 1 + j by omega] at this
theorem rrow_iff (x : S36) (i : Nat) : ∀ (l : List S36) (k : Nat), rRow x i k l = true ↔ ∀ (j : Nat) y, l[j]? = some y → i ≠ k + j → rApart x y = true
  | [], k => ⟨fun _ j x h => (by cases h), fun _ => rfl⟩
  | y :: l, k => by
    unfold rRow
    rw [Bool.and_eq_true, Bool.or_eq_true, beq_iff_eq, rrow_iff x i l (k + 1)]
    constructor
    · rintro ⟨a, b⟩ j z h e
      cases j with
      | zero => cases h; exact a.resolve_left e
      | succ j =>
        rw [List.getElem?_cons_succ] at h
        exact b j z h (by omega)
    · intro h
      refine ⟨?_, fun j z hj e => ?_⟩
      · by_cases c : i = k
        · exact .inl c
        · exact .inr (h 0 y rfl c)
      · exact h (j + 1) z (by rw [List.getElem?_cons_succ]; exact hj) (by omega)
theorem rgrid_iff (m : List S36) : ∀ (l : List S36) (i : Nat), rGrid m i l = true ↔ ∀ (j : Nat) x, l[j]? = some x → rRow x (i + j) 0 m = true
  | [], k => ⟨fun _ j x h => (by cases h), fun _ => rfl⟩
  | y :: l, i => by
    unfold rGrid
    rw [Bool.and_eq_true, rgrid_iff m l (i + 1)]
    constructor
    · rintro ⟨a, b⟩ j x h
      cases j with
      | zero => cases h; exact a
      | succ j =>
        rw [List.getElem?_cons_succ] at h
        have := b j x h
        rwa [show i + (j + 1) = i + 1 + j by omega]
    · intro h
      refine ⟨h 0 y rfl, fun j x hj => ?_⟩
      have := h (j + 1) x (by rw [List.getElem?_cons_succ]; exact hj)
      rwa [show i + (j + 1) = i + 1 + j by omega] at this
theorem rvalid_iff (l : List S36) : rValid l = true ↔ Val l l.length := by
  unfold rValid
  rw [Bool.and_eq_true, ral_iff, rgrid_iff]
  constructor
  · rintro ⟨h1, h2⟩
    have A : ∀ (j : Nat) x, l[j]? = some x → PostV l.length x ∧ (∀ h ∈ x.f1, h.f1 = (j : Int) ∧ ∀ g ∈ x.f2, g.f0 ≠ h.f0) := fun j x hx => by
      have := (ralone_iff _ _ _).1 (h1 j x hx)
      rwa [Nat.zero_add] at this
    have ok : ∀ p ∈ l, PostV l.length p := fun p hp => by
      obtain ⟨j, hj⟩ := List.mem_iff_getElem?.1 hp
      exact (A j p hj).1
    have B : ∀ (j k : Nat) x y, l[j]? = some x → l[k]? = some y → j ≠ k → (∀ g ∈ x.f1, ∀ h ∈ y.f1, h.f0 ≠ g.f0) ∧ (∀ h ∈ x.f2, (∀ g ∈ y.f1, g.f0 = h.f0 → h.f2 < g.f2 ∨ h.f2 = g.f2 ∧ h.f1 = g.f1) ∧ (∀ g ∈ y.f2, g.f0 = h.f0 → g.f2 = h.f2 → g.f1 = h.f1)) := fun j k x y hx hy e => by
      have hy2 := ok y (List.mem_of_getElem? hy)
      have := h2 j x hx
      rw [Nat.zero_add] at this
      exact (rapart_iff hy2.has.sorted hy2.hints.sorted).1 ((rrow_iff x j l 0).1 this k y hy (by omega))
    refine ⟨ok, fun j p h hp hh => ((A j p hp).2 h hh).1, fun p hp g hg h hh e => ?_, fun p hp q hq g hg h hh e => ?_, fun p hp q hq g hg h hh e t => ?_, fun p hp q hq g hg h hh e => ?_⟩
    · obtain ⟨j, hj⟩ := List.mem_iff_getElem?.1 hp
      exact ((A j p hj).2 g hg).2 h hh e.symm
    · obtain ⟨j, hj⟩ := List.mem_iff_getElem?.1 hp
      obtain ⟨k, hk⟩ := List.mem_iff_getElem?.1 hq
      by_cases c : j = k
      · subst c
        rw [hj] at hk; cases hk
        exact sorted_eq (ok p hp).has.sorted hg hh e
      · exact absurd e.symm ((B j k p q hj hk c).1 g hg h hh)
    · obtain ⟨j, hj⟩ := List.mem_iff_getElem?.1 hp
      obtain ⟨k, hk⟩ := List.mem_iff_getElem?.1 hq
      by_cases c : j = k
      · subst c
        rw [hj] at hk; cases hk
        rw [sorted_eq (ok p hp).hints.sorted hg hh e]
      · exact (((B j k p q hj hk c).2 g hg).2 h hh e.symm t.symm).symm
    · obtain ⟨j, hj⟩ := List.mem_iff_getElem?.1 hp
      obtain ⟨k, hk⟩ := List.mem_iff_getElem?.1 hq
      by_cases c : j = k
      · subst c
        rw [hj] at hk; cases hk
        exact absurd e.symm (((A j p hj).2 g hg).2 h hh)
      · exact ((B k j q p hk hj (Ne.symm c)).2 h hh).1 g hg e
  · intro v
    refine ⟨fun j x hx => (ralone_iff _ _ _).2 ⟨v.ok x (List.mem_of_getElem? hx), fun h hh => ⟨by rw [Nat.zero_add]; exact v.here j x h hx hh, fun g hg e => v.apart x (List.mem_of_getElem? hx) h hh g hg e.symm⟩⟩, fun j x hx => ?_⟩
    rw [Nat.zero_add]
    refine (rrow_iff x j l 0).2 fun k y hy e => ?_
    have mx := List.mem_of_getElem? hx
    have my := List.mem_of_getElem? hy
    have hy2 := v.ok y my
    refine (rapart_iff hy2.has.sorted hy2.hints.sorted).2 ⟨fun g hg h hh q => ?_, fun h hh => ⟨fun g hg q => v.older y my x mx g hg h hh q, fun g hg q t => v.same y my x mx g hg h hh q t⟩⟩
    have := v.once x mx y my g hg h hh q.symm
    have e1 := v.here j x g hx hg
    have e2 := v.here k y h hy hh
    rw [this, e2] at e1
    omega
theorem rvalid_is (l : List S36) : rValid l = validF l l.length := by
  have h1 := rvalid_iff l
  have h2 := valid_iff l l.length
  cases a : rValid l <;> cases b : validF l l.length
  · rfl
  · rw [a] at h1; exact absurd (h1.2 (h2.1 b)) (by simp)
  · rw [b] at h2; exact absurd (h2.2 (h1.1 a)) (by simp)
  · rfl
theorem rcheck_is (l : List S36) : rCheck l = checkC l := by
  unfold rCheck checkC checkF
  rw [rvalid_is, Bool.and_assoc]
end Go.Proofs.Ytjnceoohlcchnaa.Print
