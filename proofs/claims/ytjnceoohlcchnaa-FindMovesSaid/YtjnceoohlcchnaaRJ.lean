/- Whether two maps are equal, crashes, merging, being told: contracts and plain laws, whatever the input. -/
import Derived.Test.YtjnceoohlcchnaaRC
import Derived.Test.YtjnceoohlcchnaaRI
import Derived.Deep.RegionHeld3
import Derived.Test.YtjnceoohlcchnaaRB
import Derived.Deep.Slices
import Derived.Deep.SlicePairs
import Derived.SizedLaws
import Derived.WalkKit
import Derived.ProofKit
import Derived.OpenShut
import Derived.ChangeOld
import Derived.Below
import Derived.Test.YtjnceoohlcchnaaRA
import Derived.Test.YtjnceoohlcchnaaRH
set_option linter.unusedVariables false
set_option linter.unusedSimpArgs false
/-! Whether two maps are equal. -/
namespace Go.Proofs.Ytjnceoohlcchnaa.Print
open Go Go.RowKit Go.Deep Go.Proofs.YtjnceoohlcchnaaW.PrintWords Go.Proofs.YtjnceoohlcchnaaW.PrintLast Go.Proofs.YtjnceoohlcchnaaW.PrintMore

def sameBy {α : Type} (e : α → α → Bool) : List α → List α → Bool
  | [], [] => true
  | x :: a, y :: b => e x y && sameBy e a b
  | _, _ => false
theorem sameBy_ne {α : Type} {e : α → α → Bool} : ∀ {a b : List α}, a.length ≠ b.length → sameBy e a b = false
  | [], [], h => absurd rfl h
  | x :: a, y :: b, h => by
    unfold sameBy
    rw [sameBy_ne (a := a) (b := b) (fun c => h (by rw [List.length_cons, List.length_cons, c])), Bool.and_false]
  | [], _ :: _, _ => rfl
  | _ :: _, [], _ => rfl
theorem sameBy_drop {α : Type} {e : α → α → Bool} {a b : List α} {i : Nat} {x y : α} (hx : a[i]? = some x) (hy : b[i]? = some y) : sameBy e (a.drop i) (b.drop i) = (e x y && sameBy e (a.drop (i + 1)) (b.drop (i + 1))) := by
  obtain ⟨h1, rfl⟩ := List.getElem?_eq_some_iff.1 hx
  obtain ⟨h2, rfl⟩ := List.getElem?_eq_some_iff.1 hy
  rw [List.drop_eq_getElem_cons h1, List.drop_eq_getElem_cons h2, sameBy]
theorem sameBy_end {α : Type} {e : α → α → Bool} {a b : List α} {i : Nat} (ha : a.length ≤ i) (hb : b.length ≤ i) : sameBy e (a.drop i) (b.drop i) = true := by
  rw [List.drop_of_length_le ha, List.drop_of_length_le hb, sameBy]
theorem sameBy_refl {α : Type} {e : α → α → Bool} (h : ∀ x, e x x = true) : ∀ a : List α, sameBy e a a = true
  | [] => rfl
  | x :: a => by unfold sameBy; rw [h x, sameBy_refl h a]; rfl
theorem sameBy_eq {α : Type} {e : α → α → Bool} (h : ∀ x y, e x y = true → x = y) : ∀ {a b : List α}, sameBy e a b = true → a = b
  | [], [], _ => rfl
  | x :: a, y :: b, g => by
    unfold sameBy at g
    rw [Bool.and_eq_true] at g
    rw [h x y g.1, sameBy_eq h g.2]
  | [], _ :: _, g => by cases g
  | _ :: _, [], g => by cases g
def hintE (a b : S31) : Bool := (a.f0 == b.f0) && ((a.f1 == b.f1) && (a.f2 == b.f2))
theorem hintE_refl (a : S31) : hintE a a = true := by unfold hintE; simp
theorem hintE_eq (a b : S31) (h : hintE a b = true) : a = b := by
  obtain ⟨a0, a1, a2⟩ := a
  obtain ⟨b0, b1, b2⟩ := b
  unfold hintE at h
  rw [Bool.and_eq_true, Bool.and_eq_true, beq_iff_eq, beq_iff_eq, beq_iff_eq] at h
  obtain ⟨h1, h2, h3⟩ := h
  dsimp only at h1 h2 h3
  rw [h1, h2, h3]
set_option maxRecDepth 100000 in
theorem equal_any (A B : Option Addr) (n ca m cb : Nat) (a b : List S31) (w : World) (hn : n = a.length) (hm : m = b.length) (ha : Kd.C k31 w A a.length a) (hb : Kd.C k31 w B b.length b) (hs : a.length ≤ 1000000000000) :
    Calls Try.prog 83 #[.slice A n ca, .slice B m cb] w fun e w' => e = .returned (.bool (sameBy hintE a b)) ∧ Below w.heap.size w w' := by
  subst hn
  subst hm
  have HA := Aside0.mk ha
  have HB := Aside0.mk hb
  clear ha hb
  go_enter Try.func83, Try.ntmps83
  by_cases hl : a.length = b.length
  rotate_left
  · have HV := Aside0.mk (sameBy_ne (e := hintE) hl)
    have dl : ((a.length : Int) != (b.length : Int)) = true := by rw [bne_iff_ne]; omega
    clear hl
    go_wp2_with fail
    go_returns
    exact ⟨by rw [HV.out]; rfl, Below.refl _ _⟩
  have HL := Aside0.mk hl
  have dl : ((a.length : Int) != (b.length : Int)) = false := by rw [hl]; simp
  clear hl
  go_wp2_with fail
  go_loopw [13] (fun u13 wr => ∃ i : Nat, u13 = .int .i64 (i : Int) ∧ i ≤ a.length ∧ Aside0 (sameBy hintE a b = sameBy hintE (a.drop i) (b.drop i)) ∧ Aside0 (Below w.heap.size w wr)) (fun u13 _ => a.length - (intOf u13).toNat)
  case atStart => exact ⟨0, rfl, Nat.zero_le _, ⟨rfl⟩, ⟨Below.refl _ _⟩⟩
  case round =>
    obtain ⟨i, rfl, hi, HE, HBR⟩ := hrel
    by_cases hlt : i < a.length
    rotate_left
    · have hd : decide (i < a.length) = false := decide_eq_false hlt
      have HV : Aside0 (sameBy hintE a b = true) := ⟨by rw [HE.out, sameBy_end (by omega) (by rw [← HL.out]; omega)]⟩
      go_wp2_with fail
      go_returns
      exact ⟨by rw [HV.out]; rfl, HBR.out⟩
    have hd : decide (i < a.length) = true := decide_eq_true hlt
    have hlt2 : i < b.length := by rw [← HL.out]; exact hlt
    have hd2 : decide (i < b.length) = true := decide_eq_true hlt2
    obtain ⟨ad, x, rfl, hx, p0, p1, p2⟩ := hint_at (Kd.C_below HA.out HBR.out) i hlt
    obtain ⟨bd, y, rfl, hy, q0, q1, q2⟩ := hint_at (Kd.C_below HB.out HBR.out) i hlt2
    have HS := Aside0.mk (sameBy_drop (e := hintE) hx hy)
    obtain ⟨a0, a1, a2⟩ := x
    obtain ⟨b0, b1, b2⟩ := y
    have key : (a0 = b0 ∧ a1 = b1 ∧ a2 = b2) ∨ (hintE ⟨a0, a1, a2⟩ ⟨b0, b1, b2⟩ = false ∧ (¬ a0 = b0 ∨ ¬ a1 = b1 ∨ ¬ a2 = b2)) := by
      by_cases k0 : a0 = b0
      · by_cases k1 : a1 = b1
        · by_cases k2 : a2 = b2
          · exact .inl ⟨k0, k1, k2⟩
          · exact .inr ⟨by unfold hintE; simp [k2], .inr (.inr k2)⟩
        · exact .inr ⟨by unfold hintE; simp [k1], .inr (.inl k1)⟩
      · exact .inr ⟨by unfold hintE; simp [k0], .inl k0⟩
    clear hx hy
    dsimp only at p0 p1 p2 q0 q1 q2
    have hu := Try.underlying31
    go_upto_region 6 with fail
    rcases key with ⟨rfl, rfl, rfl⟩ | ⟨hf, hne⟩
    · have HE2 : Aside0 (sameBy hintE a b = sameBy hintE (a.drop (i + 1)) (b.drop (i + 1))) := ⟨by rw [HE.out, HS.out, hintE_refl, Bool.true_and]⟩
      clear HS
      go_region
      all_goals
        go_wp2_with fail
        go_roundw
        case measure => simp [intOf]; omega
        case rel => exact ⟨i + 1, by go_num, by omega, HE2, ⟨below_drew HBR.out⟩⟩
    · have HV : Aside0 (sameBy hintE a b = false) := ⟨by rw [HE.out, HS.out, hf, Bool.false_and]⟩
      clear HS hf
      rcases hne with hne | hne | hne
      all_goals
        go_region
        all_goals
          go_wp2_with fail
          go_returns
          exact ⟨by rw [HV.out]; rfl, below_drew HBR.out⟩
def postE (x y : S36) : Bool := (x.f0 == y.f0) && (sameBy hintE x.f1 y.f1 && sameBy hintE x.f2 y.f2)
theorem postE_refl (x : S36) : postE x x = true := by
  unfold postE
  rw [sameBy_refl hintE_refl, sameBy_refl hintE_refl]
  simp
theorem postE_eq (a b : S36) (h : postE a b = true) : a = b := by
  obtain ⟨a0, a1, a2⟩ := a
  obtain ⟨b0, b1, b2⟩ := b
  unfold postE at h
  rw [Bool.and_eq_true, Bool.and_eq_true, beq_iff_eq] at h
  obtain ⟨h1, h2, h3⟩ := h
  dsimp only at h1 h2 h3
  rw [h1, sameBy_eq hintE_eq h2, sameBy_eq hintE_eq h3]
set_option maxRecDepth 100000 in
theorem same1_any (x y : S36) (u v : Bool) (A1 A2 B1 B2 : Option Addr) (n1 n2 m1 m2 c1 c2 d1 d2 : Nat) (w : World) (hu : u = x.f0) (hv : v = y.f0) (e1 : n1 = x.f1.length) (e2 : n2 = x.f2.length) (e3 : m1 = y.f1.length) (e4 : m2 = y.f2.length)
    (h1 : Kd.C k31 w A1 x.f1.length x.f1) (h2 : Kd.C k31 w A2 x.f2.length x.f2) (h3 : Kd.C k31 w B1 y.f1.length y.f1) (h4 : Kd.C k31 w B2 y.f2.length y.f2) (s1 : x.f1.length ≤ 1000000000000) (s2 : x.f2.length ≤ 1000000000000) :
    Calls Try.prog 82 #[.agg #[.bool u, .slice A1 n1 c1, .slice A2 n2 c2], .agg #[.bool v, .slice B1 m1 d1, .slice B2 m2 d2]] w fun e w' => e = .returned (.bool (postE x y)) ∧ Below w.heap.size w w' := by
  have HV : Aside0 (postE x y = ((u == v) && (sameBy hintE x.f1 y.f1 && sameBy hintE x.f2 y.f2))) := ⟨by rw [hu, hv]; rfl⟩
  have H1 := Aside0.mk h1
  have H2 := Aside0.mk h2
  have H3 := Aside0.mk h3
  have H4 := Aside0.mk h4
  have E1 := Aside0.mk (And.intro e1 e3)
  have E2 := Aside0.mk (And.intro e2 e4)
  clear h1 h2 h3 h4 hu hv e1 e2 e3 e4
  have huP := Try.underlying36
  go_enter Try.func82, Try.ntmps82
  go_upto_region 1 with fail
  obtain ⟨W1, hW1⟩ : ∃ W, W = w.alloc (Obj.cells #[Value.bool u, Value.slice A1 n1 c1, Value.slice A2 n2 c2] 36) := ⟨_, rfl⟩
  obtain ⟨W, hW⟩ : ∃ W, W = W1.alloc (Obj.cells #[Value.bool v, Value.slice B1 m1 d1, Value.slice B2 m2 d2] 36) := ⟨_, rfl⟩
  obtain ⟨g1, hg1⟩ : ∃ g, g = w.heap.size := ⟨_, rfl⟩
  obtain ⟨g2, hg2⟩ : ∃ g, g = w.heap.size + 1 := ⟨_, rfl⟩
  have hg3 : g2 = W1.heap.size := by rw [hg2, hW1]; simp
  rw [← hW1, ← hW, ← hg2, ← hg1]
  have HX : Aside0 (W.heap[g1]? = some (.cells #[.bool u, .slice A1 n1 c1, .slice A2 n2 c2] 36 (0, 0))) := ⟨by rw [hW, hg1]; exact blk_alloc (by rw [hW1]; exact heap_alloc_new _ _) _⟩
  have HY : Aside0 (W.heap[g2]? = some (.cells #[.bool v, .slice B1 m1 d1, .slice B2 m2 d2] 36 (0, 0))) := ⟨by rw [hW, hg3]; exact heap_alloc_new _ _⟩
  have HB : Aside0 (Below w.heap.size w W) := ⟨by rw [hW]; exact below_alloc (by rw [hW1]; exact below_alloc (Below.refl _ _) _) _⟩
  clear hW1 hW hg1 hg2 hg3
  obtain ⟨x0, x1, x2, _, _, _⟩ := blk3 HX.out
  obtain ⟨y0, y1, y2, _, _, _⟩ := blk3 HY.out
  have key : u = v ∨ (u == v) = false := by cases u <;> cases v <;> simp
  rcases key with rfl | hne
  rotate_left
  · have HV2 : Aside0 (postE x y = false) := ⟨by rw [HV.out, hne, Bool.false_and]⟩
    clear HV
    cases u <;> cases v
    all_goals first
      | (exfalso; revert hne; decide)
      | (clear hne; go_wp2_with fail; go_returns; exact ⟨by rw [HV2.out]; rfl, HB.out⟩)
  have hee : (u == u) = true := by cases u <;> rfl
  have HV2 : Aside0 (postE x y = (sameBy hintE x.f1 y.f1 && sameBy hintE x.f2 y.f2)) := ⟨by rw [HV.out, hee, Bool.true_and]⟩
  clear HV
  go_wp2_with fail
  refine (equal_any A1 B1 n1 c1 m1 d1 x.f1 y.f1 W E1.out.1 E1.out.2 (Kd.C_below H1.out HB.out) (Kd.C_below H3.out HB.out) s1).mono ?_
  rintro e w2 ⟨rfl, hB⟩
  have HB2 := Aside0.mk (below_step HB.out hB)
  have HX2 := Aside0.mk (blk_below HX.out hB)
  have HY2 := Aside0.mk (blk_below HY.out hB)
  clear hB x0 x1 x2 y0 y1 y2
  obtain ⟨x0, x1, x2, _, _, _⟩ := blk3 HX2.out
  obtain ⟨y0, y1, y2, _, _, _⟩ := blk3 HY2.out
  obtain ⟨r, hr⟩ : ∃ r, r = sameBy hintE x.f1 y.f1 := ⟨_, rfl⟩
  rw [← hr] at HV2 ⊢
  clear hr
  cases r with
  | false =>
    go_wp2_with fail
    go_returns
    exact ⟨by rw [HV2.out]; rfl, HB2.out⟩
  | true =>
    go_wp2_with fail
    refine (equal_any A2 B2 n2 c2 m2 d2 x.f2 y.f2 w2 E2.out.1 E2.out.2 (Kd.C_below H2.out HB2.out) (Kd.C_below H4.out HB2.out) s2).mono ?_
    rintro e w3 ⟨rfl, hB⟩
    have HB3 := Aside0.mk (below_step HB2.out hB)
    obtain ⟨r, hr⟩ : ∃ r, r = sameBy hintE x.f2 y.f2 := ⟨_, rfl⟩
    rw [← hr] at HV2 ⊢
    clear hr hB x0 x1 x2 y0 y1 y2
    go_wp2_with fail
    go_returns
    exact ⟨by rw [HV2.out]; rfl, HB3.out⟩
set_option maxRecDepth 100000 in
theorem eqfunc_any (A B : Option Addr) (n ca m cb : Nat) (a b : List S36) (w : World) (hn : n = a.length) (hm : m = b.length) (ha : Kd.C k36 w A a.length a) (hb : Kd.C k36 w B b.length b) (hl : Short a) :
    Calls Try.prog 81 #[.slice A n ca, .slice B m cb, .func (.func 82) #[] #[]] w fun e w' => e = .returned (.bool (sameBy postE a b)) ∧ Below w.heap.size w w' := by
  subst hn
  subst hm
  have HA := Aside0.mk ha
  have HB := Aside0.mk hb
  have HS := Aside0.mk hl
  have hl6 := hl.1
  clear ha hb hl
  go_enter Try.func81, Try.ntmps81
  by_cases hl : a.length = b.length
  rotate_left
  · have HV := Aside0.mk (sameBy_ne (e := postE) hl)
    have dl : ((a.length : Int) != (b.length : Int)) = true := by rw [bne_iff_ne]; omega
    clear hl
    go_wp2_with fail
    go_returns
    exact ⟨by rw [HV.out]; rfl, Below.refl _ _⟩
  have HL := Aside0.mk hl
  have dl : ((a.length : Int) != (b.length : Int)) = false := by rw [hl]; simp
  clear hl
  go_wp2_with fail
  go_loopw [17] (fun u17 wr => ∃ i : Nat, u17 = .int .i64 (i : Int) ∧ i ≤ a.length ∧ Aside0 (sameBy postE a b = sameBy postE (a.drop i) (b.drop i)) ∧ Aside0 (Below w.heap.size w wr)) (fun u17 _ => a.length - (intOf u17).toNat)
  case atStart => exact ⟨0, rfl, Nat.zero_le _, ⟨rfl⟩, ⟨Below.refl _ _⟩⟩
  case round =>
    obtain ⟨i, rfl, hi, HE, HBR⟩ := hrel
    by_cases hlt : i < a.length
    rotate_left
    · have hd : decide (i < a.length) = false := decide_eq_false hlt
      have HV : Aside0 (sameBy postE a b = true) := ⟨by rw [HE.out, sameBy_end (by omega) (by rw [← HL.out]; omega)]⟩
      go_wp2_with fail
      go_returns
      exact ⟨by rw [HV.out]; rfl, HBR.out⟩
    have hd : decide (i < a.length) = true := decide_eq_true hlt
    have hlt2 : i < b.length := by rw [← HL.out]; exact hlt
    have hd2 : decide (i < b.length) = true := decide_eq_true hlt2
    obtain ⟨ad, x, A1, c1, A2, c2, rfl, hx, p0, p1, p2, _, hC1, _, hC2⟩ := post_at (Kd.C_below HA.out HBR.out) i hlt
    have HX := Aside0.mk (HS.out.2 x (List.mem_of_getElem? hx))
    have HXI := Aside0.mk hx
    have HC1 := Aside0.mk hC1
    have HC2 := Aside0.mk hC2
    clear hx hC1 hC2
    have hu := Try.underlying36
    go_upto_region 6 with fail
    obtain ⟨W1, hW1⟩ : ∃ W, W = wr.alloc (Obj.cells #[Value.bool x.f0, Value.slice A1 x.f1.length c1, Value.slice A2 x.f2.length c2] 36) := ⟨_, rfl⟩
    obtain ⟨g1, hg1⟩ : ∃ g, g = wr.heap.size := ⟨_, rfl⟩
    rw [← hW1, ← hg1]
    have hBW1 : Below wr.heap.size wr W1 := by rw [hW1]; exact below_alloc (Below.refl _ _) _
    obtain ⟨bd, y, B1, d1, B2, d2, rfl, hy, q0, q1, q2, _, hD1, _, hD2⟩ := post_at (Kd.C_below HB.out (below_step HBR.out hBW1)) i hlt2
    have HD := Aside0.mk (sameBy_drop (e := postE) HXI.out hy)
    have HD1 := Aside0.mk hD1
    have HD2 := Aside0.mk hD2
    have HG0 : Aside0 (W1.heap[g1]? = some (.cells #[.bool x.f0, .slice A1 x.f1.length c1, .slice A2 x.f2.length c2] 36 (0, 0))) := ⟨by rw [hW1, hg1]; exact heap_alloc_new _ _⟩
    have HBW1 := Aside0.mk hBW1
    clear hy hD1 hD2 hBW1 hW1 hg1
    go_upto_region 7 with fail
    obtain ⟨W, hW⟩ : ∃ W, W = W1.alloc (Obj.cells #[Value.bool y.f0, Value.slice B1 y.f1.length d1, Value.slice B2 y.f2.length d2] 36) := ⟨_, rfl⟩
    obtain ⟨g2, hg2⟩ : ∃ g, g = W1.heap.size := ⟨_, rfl⟩
    rw [← hW, ← hg2]
    have HG1 : Aside0 (W.heap[g1]? = some (.cells #[.bool x.f0, .slice A1 x.f1.length c1, .slice A2 x.f2.length c2] 36 (0, 0))) := ⟨by rw [hW]; exact blk_alloc HG0.out _⟩
    have HG2 : Aside0 (W.heap[g2]? = some (.cells #[.bool y.f0, .slice B1 y.f1.length d1, .slice B2 y.f2.length d2] 36 (0, 0))) := ⟨by rw [hW, hg2]; exact heap_alloc_new _ _⟩
    have HB1W : Aside0 (Below W1.heap.size W1 W) := ⟨by rw [hW]; exact below_alloc (Below.refl _ _) _⟩
    have HBW : Aside0 (Below wr.heap.size wr W) := ⟨by rw [hW]; exact below_alloc HBW1.out _⟩
    clear hW hg2 p0 p1 p2 q0 q1 q2
    obtain ⟨x0, x1, x2, _, _, _⟩ := blk3 HG1.out
    obtain ⟨y0, y1, y2, _, _, _⟩ := blk3 HG2.out
    go_wp2_with fail
    refine (same1_any x y x.f0 y.f0 A1 A2 B1 B2 x.f1.length x.f2.length y.f1.length y.f2.length c1 c2 d1 d2 W rfl rfl rfl rfl rfl rfl (Kd.C_below HC1.out HBW.out) (Kd.C_below HC2.out HBW.out) (Kd.C_below HD1.out HB1W.out) (Kd.C_below HD2.out HB1W.out) HX.out.1 HX.out.2).mono ?_
    rintro e w2 ⟨rfl, hB⟩
    have HB2 := Aside0.mk (below_step HBR.out (below_step HBW.out hB))
    obtain ⟨r, hr⟩ : ∃ r, r = postE x y := ⟨_, rfl⟩
    rw [← hr] at HD ⊢
    clear hr hB x0 x1 x2 y0 y1 y2
    cases r with
    | false =>
      have HV : Aside0 (sameBy postE a b = false) := ⟨by rw [HE.out, HD.out, Bool.false_and]⟩
      go_wp2_with fail
      go_returns
      exact ⟨by rw [HV.out]; rfl, HB2.out⟩
    | true =>
      have HE2 : Aside0 (sameBy postE a b = sameBy postE (a.drop (i + 1)) (b.drop (i + 1))) := ⟨by rw [HE.out, HD.out, Bool.true_and]⟩
      go_wp2_with fail
      go_roundw
      case measure => simp [intOf]; omega
      case rel => exact ⟨i + 1, by go_num, by omega, HE2, HB2⟩
theorem Same_any (A B : Option Addr) (n ca m cb : Nat) (a b : List S36) (w : World) (hn : n = a.length) (hm : m = b.length) (ha : Kd.C k36 w A a.length a) (hb : Kd.C k36 w B b.length b) (hl : Short a) :
    Calls Try.prog 34 #[.slice A n ca, .slice B m cb] w fun e w' => e = .returned (.bool (sameBy postE a b)) ∧ Below w.heap.size w w' := by
  have H := Aside0.mk (eqfunc_any A B n ca m cb a b w hn hm ha hb hl)
  clear ha hb hn hm
  go_enter Try.func34, Try.ntmps34
  go_wp2_with fail
  refine H.out.mono ?_
  rintro e w2 ⟨rfl, hB⟩
  clear H
  go_wp2_with fail
  go_returns
  exact ⟨rfl, hB⟩
end Go.Proofs.Ytjnceoohlcchnaa.Print

/-! Crashes and recoveries. -/
namespace Go.Proofs.Ytjnceoohlcchnaa.Print
open Go Go.RowKit Go.Deep Go.Proofs.YtjnceoohlcchnaaW.PrintWords Go.Proofs.YtjnceoohlcchnaaW.PrintLast Go.Proofs.YtjnceoohlcchnaaW.PrintMore

def crashF (l : List S36) (place : Int) : List S36 × List S31 × Int :=
  if givenC l true [place] = 0 then (if (postA l place).f0 = true then (l.set place.toNat ⟨false, [], []⟩, (postA l place).f1, 0) else ([], [], 1)) else ([], [], givenC l true [place])
def backL (l : List S36) (place : Int) (back : List S31) : List S36 := l.set place.toNat ⟨true, back, []⟩
def recoverF (l : List S36) (place : Int) (back : List S31) : List S36 × Int :=
  if givenC l true [place] = 0 then (if (postA l place).f0 = true then ([], 1) else if validF (backL l place back) l.length = true then (backL l place back, 0) else ([], 1)) else ([], givenC l true [place])
set_option maxRecDepth 100000 in
theorem Crash_any (A : Option Addr) (n c : Nat) (l : List S36) (place : Int) (w : World) (hn : n = l.length) (hr : Kd.C k36 w A l.length l) (hc : n ≤ c) (hl : Short l) :
    Calls Try.prog 46 #[.slice A n c, .int .i64 place] w fun e w' => ∃ A2 c2 A3 c3, e = .returned (.tuple #[.slice A2 (crashF l place).1.length c2, .slice A3 (crashF l place).2.1.length c3, .int .i64 (crashF l place).2.2]) ∧ (crashF l place).1.length ≤ c2 ∧ Kd.C k36 w' A2 (crashF l place).1.length (crashF l place).1 ∧ (crashF l place).2.1.length ≤ c3 ∧ Kd.C k31 w' A3 (crashF l place).2.1.length (crashF l place).2.1 ∧ Below w.heap.size w w' := by
  subst hn
  have HR := Aside0.mk hr
  have HS := Aside0.mk hl
  have hl6 := hl.1
  clear hr hl
  go_enter Try.func46, Try.ntmps46
  go_wp2_with fail
  obtain ⟨g0, hg0⟩ : ∃ g, g = w.heap.size := ⟨_, rfl⟩
  obtain ⟨w1, hw1⟩ : ∃ w1, w1 = w.alloc (Obj.cells #[Value.int IntKind.i64 place] 3) := ⟨_, rfl⟩
  rw [← hw1, ← hg0]
  have HB1 : Aside0 (Below w.heap.size w w1) := ⟨by rw [hw1]; exact below_alloc (Below.refl _ _) _⟩
  have HP1 : Aside0 (Kd.C (Kd.int .i64) w1 (some ⟨g0, 0, none⟩) 1 [place]) := ⟨one_ints w1 place (by rw [hw1, hg0]; exact heap_alloc_new _ _)⟩
  clear hw1 hg0
  refine (given_any A l.length c l true (some ⟨g0, 0, none⟩) 1 1 [place] w1 rfl (Kd.C_below HR.out HB1.out) hc HS.out rfl HP1.out (Nat.le_refl _) (by simp)).mono ?_
  rintro e w2 ⟨v, rfl, hB, hv0, hv1⟩
  have HB2 : Aside0 (Below w.heap.size w w2) := ⟨HB1.out.trans (hB.mono HB1.out.size)⟩
  by_cases hgc : givenC l true [place] = 0
  rotate_left
  · have HV : Aside0 (crashF l place = ([], [], givenC l true [place])) := ⟨by unfold crashF; rw [if_neg hgc]⟩
    have hv := hv1 hgc
    subst hv
    obtain ⟨gc, hgc2⟩ : ∃ gc, gc = givenC l true [place] := ⟨_, rfl⟩
    rw [← hgc2] at hgc HV ⊢
    have dg : (gc != 0) = true := by rw [bne_iff_ne]; exact hgc
    clear hgc hgc2 hv0 hv1 hB
    go_wp2_with fail
    go_returns
    exact ⟨none, 0, none, 0, by rw [HV.out]; rfl, by rw [HV.out]; exact Nat.le_refl _, by rw [HV.out]; exact Kd.C_nil _ _, by rw [HV.out]; exact Nat.le_refl _, by rw [HV.out]; exact Kd.C_nil _ _, HB2.out⟩
  obtain ⟨i, hpi, hil, hx⟩ := given_post hgc
  have HV : Aside0 (crashF l place = if (postA l place).f0 = true then (l.set i ⟨false, [], []⟩, (postA l place).f1, 0) else ([], [], 1)) := ⟨by unfold crashF; rw [if_pos hgc, hpi]; rfl⟩
  obtain ⟨x, hxe⟩ : ∃ x, x = postA l place := ⟨_, rfl⟩
  rw [← hxe] at hx HV
  clear hxe
  subst hpi
  obtain ⟨g, cap, rfl, hO, hcap, hbg, hg2⟩ := own_of (hv0 hgc) (by omega)
  rw [hgc]
  have HO := Aside0.mk hO
  have HX := Aside0.mk hx
  have HBG : Aside0 (w.heap.size ≤ g) := ⟨Nat.le_trans HB1.out.size hbg⟩
  clear hgc hv0 hv1 hO hx hB hg2
  obtain ⟨A1, c1, A2, c2, q0, q1, q2, f0, f1, f2, r1, r2, hc1, hc2⟩ := HO.out.cells HX.out
  have HR1 := Aside0.mk r1
  clear r1 r2
  obtain ⟨u, hu⟩ : ∃ u, u = x.f0 := ⟨_, rfl⟩
  rw [← hu] at q0 HV
  clear hu
  cases u with
  | false =>
    have HV2 : Aside0 (crashF l i = ([], [], 1)) := ⟨by rw [HV.out]; rfl⟩
    clear HV
    go_wp2_with fail
    go_returns
    exact ⟨none, 0, none, 0, by rw [HV2.out]; rfl, by rw [HV2.out]; exact Nat.le_refl _, by rw [HV2.out]; exact Kd.C_nil _ _, by rw [HV2.out]; exact Nat.le_refl _, by rw [HV2.out]; exact Kd.C_nil _ _, HB2.out⟩
  | true =>
  have HV2 : Aside0 (crashF l i = (l.set i ⟨false, [], []⟩, x.f1, 0)) := ⟨by rw [HV.out]; rfl⟩
  clear HV
  have hu81 := Try.underlying81
  have hu36 := Try.underlying36
  have hput := HO.out.put HX.out (y := ⟨false, [], []⟩) (j := 0) (seg := [.bool false, .slice none 0 0, .slice none 0 0]) q0 q1 q2 rfl (by simp) (Kd.R_nil _ _ _ _ _) (Kd.R_nil _ _ _ _ _)
  have hO4 : Own (((w2.setCell ⟨g, i * 3, none⟩ (.bool false)).setCell ⟨g, i * 3 + 1, none⟩ (.slice none 0 0)).setCell ⟨g, i * 3 + 2, none⟩ (.slice none 0 0)) w1.heap.size g cap (l.set i ⟨false, [], []⟩) := by simpa [World.setCells] using hput
  have HH4 := Aside0.mk (Kd.R_far (p := ⟨g, i * 3 + 2, none⟩) (Kd.R_far (p := ⟨g, i * 3 + 1, none⟩) (Kd.R_far (p := ⟨g, i * 3, none⟩) HR1.out (fun _ hk => hk.2) (.bool false)) (fun _ hk => hk.2) (.slice none 0 0)) (fun _ hk => hk.2) (.slice none 0 0))
  have HB4 : Aside0 (Below w.heap.size w (((w2.setCell ⟨g, i * 3, none⟩ (.bool false)).setCell ⟨g, i * 3 + 1, none⟩ (.slice none 0 0)).setCell ⟨g, i * 3 + 2, none⟩ (.slice none 0 0))) := ⟨below_set (below_set (below_set HB2.out HBG.out) HBG.out) HBG.out⟩
  have HO4 := Aside0.mk hO4
  clear hput hO4
  go_upto_region 8 with fail
  obtain ⟨w4, hw4⟩ : ∃ W, W = (((w2.setCell ⟨g, i * 3, none⟩ (.bool false)).setCell ⟨g, i * 3 + 1, none⟩ (.slice none 0 0)).setCell ⟨g, i * 3 + 2, none⟩ (.slice none 0 0)) := ⟨_, rfl⟩
  rw [← hw4] at HH4 HB4 HO4 ⊢
  obtain ⟨l2, hl2⟩ : ∃ l2, l2 = l.set i ⟨false, [], []⟩ := ⟨_, rfl⟩
  rw [← hl2] at HO4 HV2
  have hL : l2.length = l.length := by rw [hl2, List.length_set]
  have hC4 := HO4.out.C
  rw [hL] at hC4
  have HC4 := Aside0.mk hC4
  have HL := Aside0.mk hL
  clear hw4 hl2 hC4 hL q0 q1 q2 f0 f1 f2
  go_wp2_with fail
  refine (posts_any (some ⟨g, 0, none⟩) l.length cap l2 w4 HL.out.symm HC4.out hcap (by rw [HL.out]; exact hl6)).mono ?_
  rintro e w5 ⟨A5, c5, rfl, h5, hC5, hB⟩
  have HC5 := Aside0.mk hC5
  have HH5 := Aside0.mk (Kd.C_below (Kd.R_reads' HH4.out).2.2 hB)
  have HB5 : Aside0 (Below w.heap.size w w5) := ⟨HB4.out.trans (hB.mono HB4.out.size)⟩
  clear hC5 hB
  go_wp2_with fail
  go_returns
  exact ⟨A5, c5, A1, c1, by rw [HV2.out]; rfl, by rw [HV2.out]; exact h5, by rw [HV2.out]; exact HC5.out, by rw [HV2.out]; exact hc1, by rw [HV2.out]; exact HH5.out, HB5.out⟩
set_option maxRecDepth 100000 in
theorem Recover_any (A B : Option Addr) (n c m cb : Nat) (l : List S36) (place : Int) (back : List S31) (w : World) (hn : n = l.length) (hr : Kd.C k36 w A l.length l) (hc : n ≤ c) (hl : Short l) (hm : m = back.length) (hb : Kd.C k31 w B back.length back) (hcb : m ≤ cb) (hbl : back.length ≤ 1000000000000) :
    Calls Try.prog 48 #[.slice A n c, .int .i64 place, .slice B m cb] w fun e w' => ∃ A2 c2, e = .returned (.tuple #[.slice A2 (recoverF l place back).1.length c2, .int .i64 (recoverF l place back).2]) ∧ (recoverF l place back).1.length ≤ c2 ∧ Kd.C k36 w' A2 (recoverF l place back).1.length (recoverF l place back).1 ∧ Below w.heap.size w w' := by
  subst hn
  subst hm
  have HR := Aside0.mk hr
  have HS := Aside0.mk hl
  have HK := Aside0.mk hb
  have hl6 := hl.1
  clear hr hl hb
  go_enter Try.func48, Try.ntmps48
  go_wp2_with fail
  obtain ⟨g0, hg0⟩ : ∃ g, g = w.heap.size := ⟨_, rfl⟩
  obtain ⟨w1, hw1⟩ : ∃ w1, w1 = w.alloc (Obj.cells #[Value.int IntKind.i64 place] 3) := ⟨_, rfl⟩
  rw [← hw1, ← hg0]
  have HB1 : Aside0 (Below w.heap.size w w1) := ⟨by rw [hw1]; exact below_alloc (Below.refl _ _) _⟩
  have HP1 : Aside0 (Kd.C (Kd.int .i64) w1 (some ⟨g0, 0, none⟩) 1 [place]) := ⟨one_ints w1 place (by rw [hw1, hg0]; exact heap_alloc_new _ _)⟩
  clear hw1 hg0
  refine (given_any A l.length c l true (some ⟨g0, 0, none⟩) 1 1 [place] w1 rfl (Kd.C_below HR.out HB1.out) hc HS.out rfl HP1.out (Nat.le_refl _) (by simp)).mono ?_
  rintro e w2 ⟨v, rfl, hB, hv0, hv1⟩
  have HB2 : Aside0 (Below w.heap.size w w2) := ⟨HB1.out.trans (hB.mono HB1.out.size)⟩
  by_cases hgc : givenC l true [place] = 0
  rotate_left
  · have HV : Aside0 (recoverF l place back = ([], givenC l true [place])) := ⟨by unfold recoverF; rw [if_neg hgc]⟩
    have hv := hv1 hgc
    subst hv
    obtain ⟨gc, hgc2⟩ : ∃ gc, gc = givenC l true [place] := ⟨_, rfl⟩
    rw [← hgc2] at hgc HV ⊢
    have dg : (gc != 0) = true := by rw [bne_iff_ne]; exact hgc
    clear hgc hgc2 hv0 hv1 hB
    go_wp2_with fail
    go_returns
    exact ⟨none, 0, by rw [HV.out]; rfl, by rw [HV.out]; exact Nat.le_refl _, by rw [HV.out]; exact Kd.C_nil _ _, HB2.out⟩
  obtain ⟨i, hpi, hil, hx⟩ := given_post hgc
  have HV : Aside0 (recoverF l place back = if (postA l place).f0 = true then ([], 1) else if validF (l.set i ⟨true, back, []⟩) l.length = true then (l.set i ⟨true, back, []⟩, 0) else ([], 1)) := ⟨by unfold recoverF; rw [if_pos hgc, hpi]; rfl⟩
  obtain ⟨x, hxe⟩ : ∃ x, x = postA l place := ⟨_, rfl⟩
  rw [← hxe] at hx HV
  clear hxe
  subst hpi
  obtain ⟨g, cap, rfl, hO, hcap, hbg, hg2⟩ := own_of (hv0 hgc) (by omega)
  rw [hgc]
  have HO := Aside0.mk hO
  have HX := Aside0.mk hx
  have HBG : Aside0 (w.heap.size ≤ g) := ⟨Nat.le_trans HB1.out.size hbg⟩
  clear hgc hv0 hv1 hO hx hB hg2
  obtain ⟨A1, c1, A2, c2, q0, q1, q2, f0, f1, f2, r1, r2, hc1, hc2⟩ := HO.out.cells HX.out
  clear r1 r2
  obtain ⟨u, hu⟩ : ∃ u, u = x.f0 := ⟨_, rfl⟩
  rw [← hu] at q0 HV
  clear hu
  cases u with
  | true =>
    have HV2 : Aside0 (recoverF l i back = ([], 1)) := ⟨by rw [HV.out]; rfl⟩
    clear HV
    go_wp2_with fail
    go_returns
    exact ⟨none, 0, by rw [HV2.out]; rfl, by rw [HV2.out]; exact Nat.le_refl _, by rw [HV2.out]; exact Kd.C_nil _ _, HB2.out⟩
  | false =>
  have HV2 : Aside0 (recoverF l i back = if validF (l.set i ⟨true, back, []⟩) l.length = true then (l.set i ⟨true, back, []⟩, 0) else ([], 1)) := ⟨by rw [HV.out]; rfl⟩
  clear HV
  have hu81 := Try.underlying81
  have hu36 := Try.underlying36
  go_wp2_with fail
  refine (clone_hints B cb back w2 (Kd.C_below HK.out HB2.out) hcb hbl).mono ?_
  rintro e w3 ⟨v, rfl, hF, hB⟩
  obtain ⟨U, cu, rfl⟩ := Kd.R_slice hF
  have hO3 := HO.out.below hB
  have HX3 : Aside0 (w1.heap.size ≤ w2.heap.size) := ⟨by have := HO.out.C; have h := Kd.R_lt HO.out g (by simp [Value.ownBlock]); have := HBG.out; have := hbg; omega⟩
  have HB3 : Aside0 (Below w.heap.size w w3) := ⟨HB2.out.trans (hB.mono HB2.out.size)⟩
  clear q0 q1 q2 f0 f1 f2
  obtain ⟨A1', c1', A2', c2', q0, q1, q2, f0, f1, f2, _, _, _, _⟩ := hO3.cells HX.out
  have hput := hO3.put HX.out (y := ⟨true, back, []⟩) (j := 0) (seg := [.bool true, .slice U back.length cu, .slice none 0 0]) q0 q1 q2 rfl (by simp) (Kd.R_lower (hO3.not_g hF) HX3.out) (Kd.R_nil _ _ _ _ _)
  have hO4 : Own (((w3.setCell ⟨g, i * 3, none⟩ (.bool true)).setCell ⟨g, i * 3 + 1, none⟩ (.slice U back.length cu)).setCell ⟨g, i * 3 + 2, none⟩ (.slice none 0 0)) w1.heap.size g cap (l.set i ⟨true, back, []⟩) := by simpa [World.setCells] using hput
  have HB4 : Aside0 (Below w.heap.size w (((w3.setCell ⟨g, i * 3, none⟩ (.bool true)).setCell ⟨g, i * 3 + 1, none⟩ (.slice U back.length cu)).setCell ⟨g, i * 3 + 2, none⟩ (.slice none 0 0))) := ⟨below_set (below_set (below_set HB3.out HBG.out) HBG.out) HBG.out⟩
  have HO4 := Aside0.mk hO4
  clear hput hO4 hO3 hF hB
  go_upto_region 7 with fail
  obtain ⟨w4, hw4⟩ : ∃ W, W = (((w3.setCell ⟨g, i * 3, none⟩ (.bool true)).setCell ⟨g, i * 3 + 1, none⟩ (.slice U back.length cu)).setCell ⟨g, i * 3 + 2, none⟩ (.slice none 0 0)) := ⟨_, rfl⟩
  rw [← hw4] at HB4 HO4 ⊢
  obtain ⟨l2, hl2⟩ : ∃ l2, l2 = l.set i ⟨true, back, []⟩ := ⟨_, rfl⟩
  rw [← hl2] at HO4 HV2
  have hL : l2.length = l.length := by rw [hl2, List.length_set]
  have HS2 : Aside0 (Short l2) := ⟨by
    refine ⟨by rw [hL]; exact hl6, fun y hy => ?_⟩
    rw [hl2] at hy
    rcases List.mem_or_eq_of_mem_set hy with hy | hy
    · exact HS.out.2 y hy
    · rw [hy]; exact ⟨hbl, Nat.zero_le _⟩⟩
  have hC4 := HO4.out.C
  have HC4 := Aside0.mk hC4
  have HL := Aside0.mk hL
  clear hw4 hl2 hC4 hL q0 q1 q2 f0 f1 f2
  go_wp2_with fail
  refine (valid_any (some ⟨g, 0, none⟩) l.length cap l2 l.length w4 HL.out.symm HC4.out (by exact hcap) HS2.out).mono ?_
  rintro e w5 ⟨rfl, hB⟩
  have HC5 := Aside0.mk (Kd.C_below HC4.out hB)
  have HB5 : Aside0 (Below w.heap.size w w5) := ⟨HB4.out.trans (hB.mono HB4.out.size)⟩
  obtain ⟨vb, hvb⟩ : ∃ b, b = validF l2 l.length := ⟨_, rfl⟩
  rw [← hvb] at HV2 ⊢
  clear hB hvb
  cases vb with
  | false =>
    have HV3 : Aside0 (recoverF l i back = ([], 1)) := ⟨by rw [HV2.out]; rfl⟩
    clear HV2
    go_wp2_with fail
    go_returns
    exact ⟨none, 0, by rw [HV3.out]; rfl, by rw [HV3.out]; exact Nat.le_refl _, by rw [HV3.out]; exact Kd.C_nil _ _, HB5.out⟩
  | true =>
    have HV3 : Aside0 (recoverF l i back = (l2, 0)) := ⟨by rw [HV2.out]; rfl⟩
    clear HV2
    go_wp2_with fail
    refine (posts_any (some ⟨g, 0, none⟩) l.length cap l2 w5 HL.out.symm (by have h := HC5.out; rw [HL.out] at h; exact h) hcap (by rw [HL.out]; exact hl6)).mono ?_
    rintro e w6 ⟨A5, c5, rfl, h5, hC6, hB⟩
    have HC6 := Aside0.mk hC6
    have HB6 : Aside0 (Below w.heap.size w w6) := ⟨HB5.out.trans (hB.mono HB5.out.size)⟩
    clear hC6 hB
    go_wp2_with fail
    go_returns
    exact ⟨A5, c5, by rw [HV3.out]; rfl, by rw [HV3.out]; exact h5, by rw [HV3.out]; exact HC6.out, HB6.out⟩
end Go.Proofs.Ytjnceoohlcchnaa.Print

/-! what a crash and a recovery come to -/
namespace Go.Proofs.Ytjnceoohlcchnaa.Print
open Go Go.RowKit Go.Deep Go.Proofs.YtjnceoohlcchnaaW.PrintWords Go.Proofs.YtjnceoohlcchnaaW.PrintLast Go.Proofs.YtjnceoohlcchnaaW.PrintMore
theorem vat_less {l : List S36} {n : Int} (hv : Vat l n) {i : Nat} {x y : S36} (hi : l[i]? = some x) (h1 : ∀ z ∈ y.f1, z ∈ x.f1) (h2 : ∀ z ∈ y.f2, z ∈ x.f2) (hy : PostV n y) : Vat (l.set i y) n := by
  have k1 : ∀ j z, HasAt (l.set i y) j z → HasAt l j z := fun j z h => by
    rcases (has_set hi).1 h with ⟨e, g⟩ | ⟨_, g⟩
    · rw [e]; exact (has_in hi).2 (h1 z g)
    · exact g
  have k2 : ∀ j z, HintAt (l.set i y) j z → HintAt l j z := fun j z h => by
    rcases (hint_set hi).1 h with ⟨e, g⟩ | ⟨_, g⟩
    · rw [e]; exact (hint_in hi).2 (h2 z g)
    · exact g
  exact ⟨post_set hv hy, fun j h a => hv.here j h (k1 j h a), fun j g h a b => hv.apart j g h (k1 j g a) (k2 j h b), fun a b g h c d => hv.once a b g h (k1 a g c) (k1 b h d), fun a b g h c d => hv.same a b g h (k2 a g c) (k2 b h d), fun a b g h c d => hv.older a b g h (k1 a g c) (k2 b h d)⟩
theorem listed_nil (n : Int) : Listed [] n := ⟨Nat.zero_le _, List.Pairwise.nil, fun x hx => by cases hx⟩
theorem vat_valid {l n : List S36} (hc : checkF l = true) (hl : n.length = l.length) (hv : Vat n l.length) : checkF n = true ∧ validF n l.length = true := by
  have hm := (check_iff l).1 hc
  have h2 := (vat_iff n _).2 hv
  have hn : checkF n = true := (check_iff n).2 ⟨by rw [hl]; exact hm.one, by rw [hl]; exact hm.most, by rw [hl]; exact h2⟩
  refine ⟨hn, ?_⟩
  unfold checkF at hn
  rw [Bool.and_eq_true] at hn
  have := hn.2
  rw [hl] at this
  exact this
structure CrashOk (l : List S36) (place : Int) (i : Nat) (x : S36) : Prop where
  chk : checkF l = true
  pl : place = (i : Int)
  lt : i < l.length
  at' : l[i]? = some x
  up : x.f0 = true
  crash : crashF l place = (l.set i ⟨false, [], []⟩, x.f1, 0)
  chk2 : checkF (l.set i ⟨false, [], []⟩) = true
  back : recoverF (l.set i ⟨false, [], []⟩) (i : Int) x.f1 = (l.set i ⟨true, x.f1, []⟩, 0)
  chk3 : checkF (l.set i ⟨true, x.f1, []⟩) = true
theorem crash_bad {l : List S36} {place : Int} (h : (crashF l place).2.2 ≠ 0) : (crashF l place).1 = [] ∧ (crashF l place).2.1 = [] := by
  unfold crashF at h ⊢
  by_cases g : givenC l true [place] = 0
  · rw [if_pos g] at h ⊢
    by_cases h1 : (postA l place).f0 = true
    · rw [if_pos h1] at h; exact absurd rfl h
    · rw [if_neg h1]; exact ⟨rfl, rfl⟩
  · rw [if_neg g]; exact ⟨rfl, rfl⟩
theorem crash_ok {l : List S36} {place : Int} (h : (crashF l place).2.2 = 0) : ∃ i x, CrashOk l place i x := by
  unfold crashF at h
  by_cases g : givenC l true [place] = 0
  rotate_left
  · rw [if_neg g] at h; exact absurd h g
  rw [if_pos g] at h
  by_cases h1 : (postA l place).f0 = true
  rotate_left
  · rw [if_neg h1] at h; cases h
  obtain ⟨_, hc, _, _⟩ := given_in g
  obtain ⟨i, hpi, hil, hx⟩ := given_post g
  have hv := check_vat hc
  have hok := hv.ok _ (List.mem_of_getElem? hx)
  have hl2 : (l.set i ⟨false, [], []⟩).length = l.length := List.length_set
  have hl3 : (l.set i ⟨true, (postA l place).f1, []⟩).length = l.length := List.length_set
  have v2 : Vat (l.set i ⟨false, [], []⟩) l.length := vat_less hv hx (fun z hz => by cases hz) (fun z hz => by cases hz) ⟨listed_nil _, listed_nil _, fun _ => ⟨rfl, rfl⟩⟩
  have v3 : Vat (l.set i ⟨true, (postA l place).f1, []⟩) l.length := vat_less hv hx (fun z hz => hz) (fun z hz => by cases hz) ⟨hok.has, listed_nil _, fun e => by cases e⟩
  have c2 := vat_valid hc hl2 v2
  have c3 := vat_valid hc hl3 v3
  refine ⟨i, postA l place, hc, hpi, hil, hx, h1, ?_, c2.1, ?_, c3.1⟩
  · unfold crashF
    rw [if_pos g, if_pos h1, hpi, Int.toNat_natCast]
  · have hg2 : givenC (l.set i ⟨false, [], []⟩) true [(i : Int)] = 0 := given_of c2.1 rfl (fun p hp => by rw [List.mem_singleton] at hp; rw [hp, hl2]; omega)
    have hx2 : (l.set i (⟨false, [], []⟩ : S36))[i]? = some ⟨false, [], []⟩ := by rw [set_at hx, if_pos rfl]
    unfold recoverF backL
    rw [if_pos hg2, postA_some hx2, if_neg (by simp), hl2, Int.toNat_natCast, List.set_set, if_pos c3.2]
theorem set_row {l : List S36} {i j : Nat} (y : S36) (h : j ≠ i) : (l.set i y)[j]? = l[j]? := List.getElem?_set_ne (Ne.symm h)
end Go.Proofs.Ytjnceoohlcchnaa.Print

/-! The law of crashes, walked. -/
namespace Go.Proofs.Ytjnceoohlcchnaa.Print
open Go Go.RowKit Go.Deep Go.Proofs.YtjnceoohlcchnaaW.PrintWords Go.Proofs.YtjnceoohlcchnaaW.PrintLast Go.Proofs.YtjnceoohlcchnaaW.PrintMore

set_option maxRecDepth 100000 in
theorem SameHints_any (A B : Option Addr) (n ca m cb : Nat) (a b : List S31) (w : World) (hn : n = a.length) (hm : m = b.length) (ha : Kd.C k31 w A a.length a) (hb : Kd.C k31 w B b.length b) (hs : a.length ≤ 1000000000000) :
    Calls Try.prog 50 #[.slice A n ca, .slice B m cb] w fun e w' => e = .returned (.bool (sameBy hintE a b)) ∧ Below w.heap.size w w' := by
  subst hn
  subst hm
  have HA := Aside0.mk ha
  have HB := Aside0.mk hb
  clear ha hb
  go_enter Try.func50, Try.ntmps50
  by_cases hl : a.length = b.length
  rotate_left
  · have HV := Aside0.mk (sameBy_ne (e := hintE) hl)
    have dl : ((a.length : Int) != (b.length : Int)) = true := by rw [bne_iff_ne]; omega
    clear hl
    go_wp2_with fail
    go_returns
    exact ⟨by rw [HV.out]; rfl, Below.refl _ _⟩
  have HL := Aside0.mk hl
  have dl : ((a.length : Int) != (b.length : Int)) = false := by rw [hl]; simp
  clear hl
  go_wp2_with fail
  go_loopw [5] (fun u5 wr => ∃ i : Nat, u5 = .int .i64 (i : Int) ∧ i ≤ a.length ∧ Aside0 (sameBy hintE a b = sameBy hintE (a.drop i) (b.drop i)) ∧ Aside0 (Below w.heap.size w wr)) (fun u5 _ => a.length - (intOf u5).toNat)
  case atStart => exact ⟨0, rfl, Nat.zero_le _, ⟨rfl⟩, ⟨Below.refl _ _⟩⟩
  case round =>
    obtain ⟨i, rfl, hi, HE, HBR⟩ := hrel
    by_cases hlt : i < a.length
    rotate_left
    · have hd : decide (i < a.length) = false := decide_eq_false hlt
      have HV : Aside0 (sameBy hintE a b = true) := ⟨by rw [HE.out, sameBy_end (by omega) (by rw [← HL.out]; omega)]⟩
      go_wp2_with fail
      go_returns
      exact ⟨by rw [HV.out]; rfl, HBR.out⟩
    have hd : decide (i < a.length) = true := decide_eq_true hlt
    have hlt2 : i < b.length := by rw [← HL.out]; exact hlt
    have hd2 : decide (i < b.length) = true := decide_eq_true hlt2
    obtain ⟨ad, x, rfl, hx, p0, p1, p2⟩ := hint_at (Kd.C_below HA.out HBR.out) i hlt
    obtain ⟨bd, y, rfl, hy, q0, q1, q2⟩ := hint_at (Kd.C_below HB.out HBR.out) i hlt2
    have HS := Aside0.mk (sameBy_drop (e := hintE) hx hy)
    obtain ⟨a0, a1, a2⟩ := x
    obtain ⟨b0, b1, b2⟩ := y
    have key : (a0 = b0 ∧ a1 = b1 ∧ a2 = b2) ∨ (hintE ⟨a0, a1, a2⟩ ⟨b0, b1, b2⟩ = false ∧ (¬ a0 = b0 ∨ ¬ a1 = b1 ∨ ¬ a2 = b2)) := by
      by_cases k0 : a0 = b0
      · by_cases k1 : a1 = b1
        · by_cases k2 : a2 = b2
          · exact .inl ⟨k0, k1, k2⟩
          · exact .inr ⟨by unfold hintE; simp [k2], .inr (.inr k2)⟩
        · exact .inr ⟨by unfold hintE; simp [k1], .inr (.inl k1)⟩
      · exact .inr ⟨by unfold hintE; simp [k0], .inl k0⟩
    clear hx hy
    dsimp only at p0 p1 p2 q0 q1 q2
    have hu := Try.underlying31
    go_upto_region 6 with fail
    rcases key with ⟨rfl, rfl, rfl⟩ | ⟨hf, hne⟩
    · have HE2 : Aside0 (sameBy hintE a b = sameBy hintE (a.drop (i + 1)) (b.drop (i + 1))) := ⟨by rw [HE.out, HS.out, hintE_refl, Bool.true_and]⟩
      clear HS
      go_region
      all_goals
        go_wp2_with fail
        go_roundw
        case measure => simp [intOf]; omega
        case rel => exact ⟨i + 1, by go_num, by omega, HE2, ⟨below_drew HBR.out⟩⟩
    · have HV : Aside0 (sameBy hintE a b = false) := ⟨by rw [HE.out, HS.out, hf, Bool.false_and]⟩
      clear HS hf
      rcases hne with hne | hne | hne
      all_goals
        go_region
        all_goals
          go_wp2_with fail
          go_returns
          exact ⟨by rw [HV.out]; rfl, below_drew HBR.out⟩
theorem C_sub1 {w : World} {A : Option Addr} {c : Nat} {l : List S36} (h : Kd.C k36 w A l.length l) {k : Nat} {y : S36} (hy : l[k]? = some y) (hc : l.length ≤ c) : Kd.C k36 w (A.map (·.add (k * 3))) 1 [y] := by
  obtain ⟨hk, rfl⟩ := List.getElem?_eq_some_iff.1 hy
  have e : (l.take (k + 1)).drop k = [l[k]] := by
    rw [List.take_succ_eq_append_getElem hk, List.drop_append_of_le_length (by rw [List.length_take]; omega), List.drop_of_length_le (by rw [List.length_take]; omega), List.nil_append]
  have hm := Kd.C_mid (k := k36) (lo := k) (hi := k + 1) h (by omega) (by omega) hc
  rw [e, if_neg (by omega)] at hm
  exact hm
theorem cell_below {w w' : World} (h : Below w.heap.size w w') {p : Addr} {v : Value} (hc : w.cell? p = some v) : w'.cell? p = some v := (h.cell (World.block_lt_of_cell? w _ hc)).trans hc
set_option maxRecDepth 100000 in
set_option maxHeartbeats 16000000 in
theorem crashed_walk (A : Option Addr) (c : Nat) (m : List S36) (place : Int) (w : World) (hr : Kd.C k36 w A m.length m) (hc : m.length ≤ c) (hf : FitP m) :
    Calls Try.prog 11 #[.slice A m.length c, .int .i64 place] w fun e w' => e = .returned (.bool true) ∧ Below w.heap.size w w' := by
  have HR := Aside0.mk hr
  have HF := Aside0.mk hf
  clear hr hf
  go_enter Try.func11, Try.ntmps11
  go_wp2_with fail
  refine (awake_any w).mono ?_
  rintro e w1 ⟨rfl, hB⟩
  have HB1 := Aside0.mk hB
  clear hB
  go_wp2_with fail
  refine (few_any A m.length c m w1 rfl (Kd.C_below HR.out HB1.out) hc HF.out).mono ?_
  rintro e w2 ⟨rfl, hB⟩
  have HB2 := Aside0.mk (below_step HB1.out hB)
  clear hB HB1
  cases hfw : fewB m with
  | false =>
    clear hfw
    go_wp2_with fail
    go_returns
    exact ⟨rfl, HB2.out⟩
  | true =>
  have HS := Aside0.mk (few_short hfw)
  have hml : m.length ≤ 1000000 := HS.out.1
  clear hfw
  go_wp2_with fail
  refine (Crash_any A m.length c m place w2 rfl (Kd.C_below HR.out HB2.out) hc HS.out).mono ?_
  rintro e w3 ⟨A3, c3, A4, c4, rfl, hc3, hC3, hc4, hC4, hB⟩
  have HB3 := Aside0.mk (below_step HB2.out hB)
  clear hB
  by_cases h0 : (crashF m place).2.2 = 0
  rotate_left
  · obtain ⟨z1, z2⟩ := crash_bad h0
    obtain ⟨gc, hgc⟩ : ∃ gc, gc = (crashF m place).2.2 := ⟨_, rfl⟩
    rw [← hgc] at h0 ⊢
    have dg : (gc != 0) = true := by rw [bne_iff_ne]; exact h0
    rw [z1, z2]
    clear hgc h0 hc3 hC3 hc4 hC4 z1 z2
    simp only [List.length_nil]
    go_wp2_with fail
    go_returns
    exact ⟨rfl, HB3.out⟩
  obtain ⟨i, x, hM⟩ := crash_ok h0
  rw [hM.crash] at hc3 hC3 hc4 hC4 ⊢
  dsimp only at hc3 hC3 hc4 hC4 ⊢
  have hpl := hM.pl
  subst hpl
  obtain ⟨n, hn⟩ : ∃ n, n = m.set i ⟨false, [], []⟩ := ⟨_, rfl⟩
  obtain ⟨o, ho⟩ : ∃ o, o = m.set i ⟨true, x.f1, []⟩ := ⟨_, rfl⟩
  have hbk := hM.back
  rw [← hn] at hc3 hC3 hbk ⊢
  rw [← ho] at hbk
  have hln : n.length = m.length := by rw [hn, List.length_set]
  have hlo : o.length = m.length := by rw [ho, List.length_set]
  have HSN := Aside0.mk (short_ok (hn ▸ hM.chk2))
  have HSO := Aside0.mk (short_ok (ho ▸ hM.chk3))
  have HC3 := Aside0.mk hC3
  have HC4 := Aside0.mk hC4
  have HX := Aside0.mk hM.at'
  have HBK := Aside0.mk hbk
  have HN : Aside0 (∀ j, j ≠ i → n[j]? = m[j]?) := ⟨fun j hj => by rw [hn]; exact set_row _ hj⟩
  have HO : Aside0 (∀ j, j ≠ i → o[j]? = m[j]?) := ⟨fun j hj => by rw [ho]; exact set_row _ hj⟩
  have HOI : Aside0 (o[i]? = some ⟨true, x.f1, []⟩) := ⟨by rw [ho, set_at hM.at', if_pos rfl]⟩
  have HLN := Aside0.mk hln
  have HLO := Aside0.mk hlo
  have hil := hM.lt
  have hxl : x.f1.length ≤ 1000000000000 := (HS.out.2 x (List.mem_of_getElem? hM.at')).1
  clear hC3 hC4 hbk hn ho hln hlo hM h0
  go_wp2_with fail
  refine (Recover_any A3 A4 n.length c3 x.f1.length c4 n i x.f1 w3 rfl HC3.out hc3 HSN.out rfl HC4.out hc4 hxl).mono ?_
  rintro e w4 ⟨A5, c5, rfl, hc5, hC5, hB⟩
  rw [HBK.out] at hc5 hC5 ⊢
  dsimp only at hc5 hC5 ⊢
  have HC5 := Aside0.mk hC5
  have HB4 := Aside0.mk (below_step HB3.out hB)
  have HD4 := Aside0.mk (Kd.C_below HC3.out hB)
  have HE4 := Aside0.mk (Kd.C_below HC4.out hB)
  clear hC5 hB HC3 HC4
  rw [HLO.out] at hc5 ⊢
  rw [HLN.out] at hc3 ⊢
  obtain ⟨ad, x', A1, c1, A2, c2, rfl, hx', p0, p1, p2, _, hX1, _, _⟩ := post_at (Kd.C_below HR.out HB4.out) i hil
  rw [HX.out] at hx'
  obtain rfl := Option.some.inj hx'
  have hu36 := Try.underlying36
  have hd : decide (i < m.length) = true := decide_eq_true hil
  have HX1 := Aside0.mk hX1
  clear hX1 hx'
  go_wp2_with fail
  refine (SameHints_any A4 A1 x.f1.length c4 x.f1.length c1 x.f1 x.f1 w4 rfl rfl HE4.out HX1.out hxl).mono ?_
  rintro e w5 ⟨rfl, hB⟩
  rw [sameBy_refl hintE_refl]
  have HB5 := Aside0.mk (below_step HB4.out hB)
  have HC6 := Aside0.mk (Kd.C_below HC5.out hB)
  have HD6 := Aside0.mk (Kd.C_below HD4.out hB)
  clear hB HC5 HD4 HE4 HX1 p0 p1 p2 hd
  go_wp2_with fail
  go_loopw [11] (fun u11 wr => ∃ k : Nat, u11 = .int .i64 (k : Int) ∧ k ≤ m.length ∧ Aside0 (Below w5.heap.size w5 wr)) (fun u11 _ => m.length - (intOf u11).toNat)
  case atStart => exact ⟨0, rfl, Nat.zero_le _, ⟨Below.refl _ _⟩⟩
  case round =>
    obtain ⟨k, rfl, hk, HBR⟩ := hrel
    have HBW := Aside0.mk (below_step HB5.out HBR.out)
    by_cases hlt : k < m.length
    rotate_left
    · have hd : decide (k < m.length) = false := decide_eq_false hlt
      go_wp2_with fail
      go_returns
      exact ⟨rfl, HBW.out⟩
    have hd : decide (k < m.length) = true := decide_eq_true hlt
    by_cases hki : k = i
    · subst hki
      have HCO := Aside0.mk (Kd.C_below HC6.out HBR.out)
      have hlo2 : k < o.length := by rw [HLO.out]; exact hlt
      obtain ⟨od, xo, O1, d1, O2, d2, rfl, hxo, q0, q1, q2, _, hO1, _, _⟩ := post_at HCO.out k hlo2
      rw [HOI.out] at hxo
      obtain rfl := Option.some.inj hxo
      dsimp only [List.length_nil] at q0 q1 q2 hO1
      obtain ⟨ad2, x2, A1, c1, A2, c2, hade, hx2, r0, r1, r2, _, hX1, _, _⟩ := post_at (Kd.C_below HR.out HBW.out) k hlt
      obtain rfl := Option.some.inj hade
      rw [HX.out] at hx2
      obtain rfl := Option.some.inj hx2
      have HO1 := Aside0.mk hO1
      have HX1 := Aside0.mk hX1
      have HSB : Aside0 (∀ w', Below wr.heap.size wr w' → (w'.cell? (od.add (k * 3)) = some (.bool true) ∧ w'.cell? ⟨(od.add (k * 3)).block, (od.add (k * 3)).off + 1, none⟩ = some (.slice O1 x.f1.length d1) ∧ w'.cell? ⟨(od.add (k * 3)).block, (od.add (k * 3)).off + 2, none⟩ = some (.slice O2 0 d2) ∧ w'.cell? ⟨(ad.add (k * 3)).block, (ad.add (k * 3)).off + 1, none⟩ = some (.slice A1 x.f1.length c1))) := ⟨fun w' hb => ⟨cell_below hb q0, cell_below hb q1, cell_below hb q2, cell_below hb r1⟩⟩
      clear hxo hO1 hX1 hx2 q0 q1 q2 r0 r1 r2
      go_upto_region 14 with fail
      go_cut [100] (fun u100 wx => u100 = .bool false ∧ Aside0 (Below w5.heap.size w5 wx))
      case first =>
        go_region_held3 (fun w' => w'.cell? (od.add (k * 3)) = some (.bool true) ∧ w'.cell? ⟨(od.add (k * 3)).block, (od.add (k * 3)).off + 1, none⟩ = some (.slice O1 x.f1.length d1) ∧ w'.cell? ⟨(od.add (k * 3)).block, (od.add (k * 3)).off + 2, none⟩ = some (.slice O2 0 d2) ∧ w'.cell? ⟨(ad.add (k * 3)).block, (ad.add (k * 3)).off + 1, none⟩ = some (.slice A1 x.f1.length c1)) (exact HSB.out _ (by repeat (first | exact Below.refl _ _ | exact HB6.out | refine below_drew ?_))) (first | (go_at_call 50; refine (SameHints_any O1 A1 x.f1.length d1 x.f1.length c1 x.f1 x.f1 _ rfl rfl (Kd.C_below HO1.out (by repeat (first | exact Below.refl _ _ | refine below_drew ?_))) (Kd.C_below HX1.out (by repeat (first | exact Below.refl _ _ | refine below_drew ?_))) hxl).mono ?_; rintro e w6 ⟨rfl, hB⟩; rw [sameBy_refl hintE_refl]; have HB6 : Aside0 (Below wr.heap.size wr w6) := ⟨below_step (by repeat (first | exact Below.refl _ _ | refine below_drew ?_)) hB⟩; clear hB) | fail)
        all_goals
          go_wp2_with fail
          go_meet
          case rel => exact ⟨rfl, ⟨below_step HBR.out HB6.out⟩⟩
      case rest =>
        obtain ⟨rfl, HB7⟩ := hcut
        go_wp2_with fail
        go_roundw
        case measure => simp [intOf]; omega
        case rel => exact ⟨k + 1, by go_num, by omega, HB7⟩
    · have dki : ((k : Int) == (i : Int)) = false := by rw [beq_eq_false_iff_ne]; omega
      have k0 : (0 : Int) ≤ (k : Int) := by omega
      have k1 : IntKind.i64.wrap ((k : Int) + 1) = (k : Int) + 1 := by rw [IntKind.wrap_i64]; omega
      have k2 : (k : Int) ≤ (k : Int) + 1 := by omega
      have k3 : (k : Int) + 1 ≤ (c : Int) := by omega
      have k4 : (k : Int) + 1 ≤ (c5 : Int) := by omega
      have k5 : (k : Int) + 1 ≤ (c3 : Int) := by omega
      have j1 : ¬ c = k := by omega
      have j2 : ¬ c5 = k := by omega
      have j3 : ¬ c3 = k := by omega
      go_upto_region 16 with fail
      obtain ⟨y, hy⟩ : ∃ y, m[k]? = some y := ⟨_, List.getElem?_eq_getElem hlt⟩
      have HYM : Aside0 (Kd.C k36 wr (some (ad.add (k * 3))) 1 [y]) := ⟨C_sub1 (c := c) (Kd.C_below HR.out HBW.out) hy hc⟩
      have HYO := Aside0.mk (C_sub1 (c := c5) (Kd.C_below HC6.out HBR.out) ((HO.out k hki).trans hy) (by rw [HLO.out]; exact hc5))
      have HYN := Aside0.mk (C_sub1 (c := c3) (Kd.C_below HD6.out HBR.out) ((HN.out k hki).trans hy) (by rw [HLN.out]; exact hc3))
      have HSY : Aside0 (Short [y]) := ⟨⟨by simp, fun z hz => by rw [List.mem_singleton] at hz; rw [hz]; exact HS.out.2 y (List.mem_of_getElem? hy)⟩⟩
      clear hy
      go_cut [126] (fun u126 wx => u126 = .bool false ∧ Aside0 (Below w5.heap.size w5 wx))
      case first =>
        go_region_held3 (fun _ => True) (trivial) (first | (go_at_call 34; have hq := HB6.out; refine (Same_any (some (ad.add (k * 3))) (A3.map (·.add (k * 3))) 1 (c - k) 1 (c3 - k) [y] [y] _ rfl rfl (Kd.C_below HYM.out hq) (Kd.C_below HYN.out hq) HSY.out).mono ?_; rintro e w7 ⟨rfl, hB⟩; rw [sameBy_refl postE_refl]; have HB7 : Aside0 (Below wr.heap.size wr w7) := ⟨below_step HB6.out hB⟩; clear hB hq) | (go_at_call 34; refine (Same_any (some (ad.add (k * 3))) (A5.map (·.add (k * 3))) 1 (c - k) 1 (c5 - k) [y] [y] _ rfl rfl (Kd.C_below HYM.out (by repeat (first | exact Below.refl _ _ | refine below_drew ?_))) (Kd.C_below HYO.out (by repeat (first | exact Below.refl _ _ | refine below_drew ?_))) HSY.out).mono ?_; rintro e w6 ⟨rfl, hB⟩; rw [sameBy_refl postE_refl]; have HB6 : Aside0 (Below wr.heap.size wr w6) := ⟨below_step (by repeat (first | exact Below.refl _ _ | refine below_drew ?_)) hB⟩; clear hB) | fail)
        all_goals
          go_wp2_with fail
          go_meet
          case rel => exact ⟨rfl, ⟨below_step HBR.out HB7.out⟩⟩
      case rest =>
        obtain ⟨rfl, HB7⟩ := hcut
        go_wp2_with fail
        go_roundw
        case measure => simp [intOf]; omega
        case rel => exact ⟨k + 1, by go_num, by omega, HB7⟩
end Go.Proofs.Ytjnceoohlcchnaa.Print

/-! A map, or hints, handed in: what the row says of it, as a list. -/
namespace Go.Proofs.Ytjnceoohlcchnaa.Print
open Go Go.ChangeShapes Go.WideShapes Go.ChangeAt Go.RowKit Go.Deep Go.Proofs.YtjnceoohlcchnaaW.PrintWords Go.Proofs.YtjnceoohlcchnaaW.PrintLast Go.Proofs.YtjnceoohlcchnaaW.PrintMore

theorem weights_all {H : Type} {P : Program} {e : TypeId} : ∀ {l : List (DataW H)} {d : DataW H}, d ∈ l → ∀ n ∈ d.weights P e, n ∈ DataW.weightsAll P e l
  | [], _, h, _, _ => by cases h
  | a :: l, d, h, n, hn => by
    rw [DataW.weightsAll, List.mem_append]
    rcases List.mem_cons.1 h with rfl | h
    · exact .inl hn
    · exact .inr (weights_all h n hn)
section
variable {H : Type} {enc : TypeId × Value → H} {W : World} {held : Bool}
set_option maxRecDepth 100000 in
/-- a row of structs of three fields of one cell each -/
theorem open_triples {t e : TypeId} {f0 f1 f2 : Field} {fuel : Nat} {A : Option Addr} {len cap : Nat} {d : DataW H} {ps : List MemPlace} (ht : Try.prog.underlying t = some (.slice e)) (he : Try.prog.underlying e = some (.struct #[f0, f1, f2]))
    (ce : Try.prog.cellsOf e = 3) (o0 : f0.offset = 0) (o1 : f1.offset = 1) (o2 : f2.offset = 2) (c0 : Try.prog.cellsOf f0.type = 1) (c1 : Try.prog.cellsOf f1.type = 1) (c2 : Try.prog.cellsOf f2.type = 1)
    (h : DataW.trod enc Try.prog W 0 (fun _ => true) held fuel t [.slice A len cap] = some (d, ps)) :
    (A = none ∧ len = 0 ∧ cap = 0) ∨ ∃ (a : Addr) (D : Nat → DataW H) (rest : List (DataW H)), A = some a ∧ len ≤ cap ∧ cap ≤ maxLen ∧ d = .slice ((List.range len).map D) rest ∧
      ∀ i, i < len → ∃ (k : Nat) (v0 v1 v2 : Value) (y0 y1 y2 : DataW H × List MemPlace), W.cell? (a.add (i * 3)) = some v0 ∧ W.cell? (a.add (i * 3 + 1)) = some v1 ∧ W.cell? (a.add (i * 3 + 2)) = some v2 ∧ D i = .agg [y0.1, y1.1, y2.1] ∧
        DataW.trod enc Try.prog W 0 (fun _ => true) held k f0.type [v0] = some y0 ∧ DataW.trod enc Try.prog W 0 (fun _ => true) held k f1.type [v1] = some y1 ∧ DataW.trod enc Try.prog W 0 (fun _ => true) held k f2.type [v2] = some y2 := by
  rcases open_slice ht h with ⟨hcs, _⟩ | ⟨a, l', c', m, n, D, Pl, hcs, _, hl, hm, hmm, hx, hel⟩
  · cases hcs
    exact .inl ⟨rfl, rfl, rfl⟩
  · cases hcs
    simp only [if_true] at hmm
    refine .inr ⟨a, D, _, rfl, hl, hm, (Prod.mk.inj hx).1, fun i hi => ?_⟩
    obtain ⟨cs', q1, q2⟩ := hel i (by omega)
    rw [ce] at q1
    obtain ⟨_, hlen, hcell⟩ := World.cells?_some q1
    obtain ⟨xs, k, _, hxy, _, hxl, hf⟩ := DataW.trod_struct he q2
    match xs, hxl, cs', hlen with
    | [y0, y1, y2], _, [v0, v1, v2], _ =>
      have g0 := hf 0 f0 rfl
      have g1 := hf 1 f1 rfl
      have g2 := hf 2 f2 rfl
      simp [o0, o1, o2, c0, c1, c2] at g0 g1 g2
      have e0 := hcell 0 (by omega)
      have e1 := hcell 1 (by omega)
      have e2 := hcell 2 (by omega)
      rw [Go.Deep.add_add] at e0 e1 e2
      simp only [Prod.mk.injEq] at hxy
      exact ⟨k, v0, v1, v2, y0, y1, y2, by simpa using e0, by simpa using e1, by simpa using e2, by simpa using hxy.1, g0, g1, g2⟩
set_option maxRecDepth 100000 in
theorem lift_hints {fuel : Nat} {a : Option Addr} {len cap : Nat} {d : DataW H} {ps : List MemPlace} (h : DataW.trod enc Try.prog W 0 (fun _ => true) held fuel 34 [.slice a len cap] = some (d, ps)) (hz : ∀ n ∈ d.weights Try.prog 34, n ≤ reachBytes) :
    ∃ l : List S31, l.length = len ∧ len ≤ cap ∧ Kd.C k31 W a len l ∧ len ≤ 140737488355328 := by
  rcases open_triples Try.underlying34 Try.underlying31 (by kernel_rfl) rfl rfl rfl (by kernel_rfl) (by kernel_rfl) (by kernel_rfl) h with ⟨rfl, rfl, rfl⟩ | ⟨ad, D, rest, rfl, hl, hm, rfl, hel⟩
  · exact ⟨[], rfl, Nat.le_refl _, Kd.C_nil _ _, by simp⟩
  · rw [DataW.weights, Try.underlying34] at hz
    have hsz := hz _ (List.mem_cons_self ..)
    rw [show Try.prog.bytesOf 31 = 24 from by kernel_rfl] at hsz
    simp at hsz
    have each : ∀ i, i < len → ∃ y : S31, W.cell? (ad.add (i * 3)) = some (.int .i64 y.f0) ∧ W.cell? (ad.add (i * 3 + 1)) = some (.int .i64 y.f1) ∧ W.cell? (ad.add (i * 3 + 2)) = some (.int .i64 y.f2) := by
      intro i hi
      obtain ⟨k, v0, v1, v2, y0, y1, y2, q0, q1, q2, _, g0, g1, g2⟩ := hel i hi
      obtain ⟨z0, e0, _, _⟩ := DataW.trod_int Try.underlying3 g0
      obtain ⟨z1, e1, _, _⟩ := DataW.trod_int Try.underlying3 g1
      obtain ⟨z2, e2, _, _⟩ := DataW.trod_int Try.underlying3 g2
      simp at e0 e1 e2
      subst e0 e1 e2
      exact ⟨⟨z0, z1, z2⟩, q0, q1, q2⟩
    haveI : Inhabited S31 := ⟨⟨0, 0, 0⟩⟩
    obtain ⟨y, hy⟩ := choose_lt each
    refine ⟨(List.range len).map y, by simp, hl, ⟨by simp, by unfold maxLen at hm; omega, fun _ => ⟨ad, rfl, fun j p hj => ?_⟩⟩, by unfold reachBytes at hsz; omega⟩
    rw [List.getElem?_map] at hj
    obtain ⟨i, hi, rfl⟩ := Option.map_eq_some_iff.1 hj
    obtain ⟨hjl, hji⟩ := List.getElem?_eq_some_iff.1 hi
    simp at hjl hji
    subst hji
    obtain ⟨e0, e1, e2⟩ := hy j hjl
    refine ⟨_, rfl, k31_mk W (y j), fun i u hu => ?_⟩
    match i, hu with
    | 0, hu => cases hu; exact e0
    | 1, hu => cases hu; exact e1
    | 2, hu => cases hu; exact e2
set_option maxRecDepth 100000 in
theorem lift_posts {a : Option Addr} {len cap : Nat} {d : DataW H} {ps : List MemPlace} (h : DataW.Trod enc Try.prog W 0 (fun _ => true) held 22 (.slice a len cap) d ps) (hz : ∀ n ∈ d.weights Try.prog 22, n ≤ reachBytes) :
    ∃ l : List S36, l.length = len ∧ len ≤ cap ∧ Kd.C k36 W a len l ∧ len ≤ 140737488355328 ∧ ∀ x ∈ l, x.f1.length ≤ 140737488355328 ∧ x.f2.length ≤ 140737488355328 := by
  obtain ⟨fuel, hf⟩ := h
  rcases open_triples Try.underlying22 Try.underlying36 (by kernel_rfl) rfl rfl rfl (by kernel_rfl) (by kernel_rfl) (by kernel_rfl) (show DataW.trod enc Try.prog W 0 (fun _ => true) held fuel 22 [.slice a len cap] = some (d, ps) from by simpa [Value.cells] using hf) with ⟨rfl, rfl, rfl⟩ | ⟨ad, D, rest, rfl, hl, hm, rfl, hel⟩
  · exact ⟨[], rfl, Nat.le_refl _, Kd.C_nil _ _, by simp, by simp⟩
  · rw [DataW.weights, Try.underlying22] at hz
    have hsz := hz _ (List.mem_cons_self ..)
    rw [show Try.prog.bytesOf 36 = 56 from by kernel_rfl] at hsz
    simp at hsz
    have each : ∀ i, i < len → ∃ y : S36 × (Option Addr × Nat) × (Option Addr × Nat), W.cell? (ad.add (i * 3)) = some (.bool y.1.f0) ∧ W.cell? (ad.add (i * 3 + 1)) = some (.slice y.2.1.1 y.1.f1.length y.2.1.2) ∧ W.cell? (ad.add (i * 3 + 2)) = some (.slice y.2.2.1 y.1.f2.length y.2.2.2) ∧
        y.1.f1.length ≤ y.2.1.2 ∧ Kd.C k31 W y.2.1.1 y.1.f1.length y.1.f1 ∧ y.1.f2.length ≤ y.2.2.2 ∧ Kd.C k31 W y.2.2.1 y.1.f2.length y.1.f2 ∧ y.1.f1.length ≤ 140737488355328 ∧ y.1.f2.length ≤ 140737488355328 := by
      intro i hi
      obtain ⟨k, v0, v1, v2, y0, y1, y2, q0, q1, q2, hD, g0, g1, g2⟩ := hel i hi
      obtain ⟨b, e0, _⟩ := DataW.trod_bool Try.underlying4 g0
      simp at e0
      subst e0
      have hin : ∀ n ∈ (D i).weights Try.prog 36, n ≤ reachBytes := fun n hn => hz n (List.mem_cons_of_mem _ (List.mem_append_left _ (weights_all (d := D i) (List.mem_map.2 ⟨i, List.mem_range.2 hi, rfl⟩) n hn)))
      rw [hD, DataW.weights, Try.underlying36] at hin
      have hin2 : ∀ n ∈ DataW.weightsEach Try.prog [4, 34, 34] [y0.1, y1.1, y2.1], n ≤ reachBytes := hin
      have hw1 : ∀ n ∈ y1.1.weights Try.prog 34, n ≤ reachBytes := fun n hn => hin2 n (by simp [DataW.weightsEach, hn])
      have hw2 : ∀ n ∈ y2.1.weights Try.prog 34, n ≤ reachBytes := fun n hn => hin2 n (by simp [DataW.weightsEach, hn])
      have s1 : ∃ A n c, v1 = .slice A n c := by
        rcases open_slice Try.underlying34 g1 with ⟨hcs, _⟩ | ⟨a, l', c', _, _, _, _, hcs, _⟩
        · cases hcs; exact ⟨_, _, _, rfl⟩
        · cases hcs; exact ⟨_, _, _, rfl⟩
      have s2 : ∃ A n c, v2 = .slice A n c := by
        rcases open_slice Try.underlying34 g2 with ⟨hcs, _⟩ | ⟨a, l', c', _, _, _, _, hcs, _⟩
        · cases hcs; exact ⟨_, _, _, rfl⟩
        · cases hcs; exact ⟨_, _, _, rfl⟩
      obtain ⟨A1, n1, c1, rfl⟩ := s1
      obtain ⟨A2, n2, c2, rfl⟩ := s2
      obtain ⟨l1, z1, b1, C1, w1⟩ := lift_hints (d := y1.1) (ps := y1.2) g1 hw1
      obtain ⟨l2, z2, b2, C2, w2⟩ := lift_hints (d := y2.1) (ps := y2.2) g2 hw2
      subst z1 z2
      exact ⟨(⟨b, l1, l2⟩, (A1, c1), (A2, c2)), q0, q1, q2, b1, C1, b2, C2, w1, w2⟩
    haveI : Inhabited (S36 × (Option Addr × Nat) × (Option Addr × Nat)) := ⟨(⟨false, [], []⟩, (none, 0), (none, 0))⟩
    obtain ⟨y, hy⟩ := choose_lt each
    refine ⟨(List.range len).map fun i => (y i).1, by simp, hl, ⟨by simp, by unfold maxLen at hm; omega, fun _ => ⟨ad, rfl, fun j p hj => ?_⟩⟩, by unfold reachBytes at hsz; omega, fun x hx => ?_⟩
    · rw [List.getElem?_map] at hj
      obtain ⟨i, hi, rfl⟩ := Option.map_eq_some_iff.1 hj
      obtain ⟨hjl, hji⟩ := List.getElem?_eq_some_iff.1 hi
      simp at hjl hji
      subst hji
      obtain ⟨e0, e1, e2, b1, C1, b2, C2, _, _⟩ := hy j hjl
      refine ⟨_, rfl, k36_mk W (y j).1 b1 C1 b2 C2, fun i u hu => ?_⟩
      match i, hu with
      | 0, hu => cases hu; exact e0
      | 1, hu => cases hu; exact e1
      | 2, hu => cases hu; exact e2
    · obtain ⟨i, hi, rfl⟩ := List.mem_map.1 hx
      have := hy i (List.mem_range.1 hi)
      exact this.2.2.2.2.2.2.2
end
end Go.Proofs.Ytjnceoohlcchnaa.Print

/-! Merging hints. -/
namespace Go.Proofs.Ytjnceoohlcchnaa.Print
open Go Go.RowKit Go.Deep Go.Proofs.YtjnceoohlcchnaaW.PrintWords Go.Proofs.YtjnceoohlcchnaaW.PrintLast Go.Proofs.YtjnceoohlcchnaaW.PrintMore

/-- a list that was told a hint -/
def tlL (l : List S31) (h : S31) : List S31 := if (atB l h.f0 && decide (h.f2 ≤ (lookL l h.f0).f2)) = true then l else putL l h
def mergeL (a b : List S31) : List S31 := b.foldl tlL a
def incR : Option Int → List S31 → Bool
  | _, [] => true
  | last, h :: l => (match last with | none => true | some p => decide (p < h.f0)) && incR (some h.f0) l
def mergeF (a b : List S31) : List S31 × Int := if (incR none a && incR none b) = true then (mergeL a b, 0) else ([], 1)
theorem incR_nil (o : Option Int) : incR o [] = true := by cases o <;> rfl
theorem incR_cons (o : Option Int) (h : S31) (l : List S31) : incR o (h :: l) = ((match o with | none => true | some p => decide (p < h.f0)) && incR (some h.f0) l) := by cases o <;> rfl
theorem incR_step (l : List S31) {i : Nat} {x : S31} (hx : l[i]? = some x) : incR (lastOf l i) (l.drop i) = ((match lastOf l i with | none => true | some p => decide (p < x.f0)) && incR (lastOf l (i + 1)) (l.drop (i + 1))) := by
  obtain ⟨hi, rfl⟩ := List.getElem?_eq_some_iff.1 hx
  rw [last_succ l i hi, List.drop_eq_getElem_cons hi, incR_cons]
theorem incR_end (l : List S31) (o : Option Int) {i : Nat} (h : l.length ≤ i) : incR o (l.drop i) = true := by
  rw [List.drop_of_length_le h, incR_nil]
theorem tlL_len (l : List S31) (h : S31) : (tlL l h).length ≤ l.length + 1 := by
  unfold tlL
  split
  · omega
  · unfold putL
    rw [ins_len _ _ _ (atI_le _ _)]
    exact Nat.succ_le_succ (List.length_filter_le _ _)
theorem mergeL_step (a b : List S31) {i : Nat} {x : S31} (hx : b[i]? = some x) : mergeL a (b.take (i + 1)) = tlL (mergeL a (b.take i)) x := by
  obtain ⟨hi, rfl⟩ := List.getElem?_eq_some_iff.1 hx
  unfold mergeL
  rw [List.take_succ_eq_append_getElem hi, List.foldl_append]
  rfl
theorem mergeL_len (a : List S31) : ∀ (b : List S31), (mergeL a b).length ≤ a.length + b.length := by
  intro b
  induction b generalizing a with
  | nil => exact Nat.le_refl _
  | cons h b ih =>
    have := ih (tlL a h)
    have h2 := tlL_len a h
    unfold mergeL at this ⊢
    rw [List.foldl_cons, List.length_cons]
    omega
set_option maxRecDepth 100000 in
set_option maxHeartbeats 4000000 in
theorem Merge_any (A B : Option Addr) (n ca m cb : Nat) (a b : List S31) (w : World) (hn : n = a.length) (hm : m = b.length) (ha : Kd.C k31 w A a.length a) (hb : Kd.C k31 w B b.length b) (hca : n ≤ ca) (sa : a.length ≤ 1000000) (sb : b.length ≤ 1000000) :
    Calls Try.prog 51 #[.slice A n ca, .slice B m cb] w fun e w' => ∃ R cr, e = .returned (.tuple #[.slice R (mergeF a b).1.length cr, .int .i64 (mergeF a b).2]) ∧ (mergeF a b).1.length ≤ cr ∧ Kd.C k31 w' R (mergeF a b).1.length (mergeF a b).1 ∧ Below w.heap.size w w' := by
  subst hn
  subst hm
  have HA := Aside0.mk ha
  have HB := Aside0.mk hb
  clear ha hb
  go_enter Try.func51, Try.ntmps51
  go_wp2_with fail
  obtain ⟨gr, hgr⟩ : ∃ g, g = w.heap.size := ⟨_, rfl⟩
  obtain ⟨w1, hw1⟩ : ∃ W, W = w.alloc (Obj.cells #[Value.slice A a.length ca, Value.slice B b.length cb] 34) := ⟨_, rfl⟩
  rw [← hw1, ← hgr]
  have HB1 : Aside0 (Below w.heap.size w w1) := ⟨by rw [hw1]; exact below_alloc (Below.refl _ _) _⟩
  have HG1 : Aside0 (w1.heap[gr]? = some (.cells #[.slice A a.length ca, .slice B b.length cb] 34 (0, 0))) := ⟨by rw [hw1, hgr]; exact heap_alloc_new _ _⟩
  clear hw1 hgr
  go_loopw [18] (fun u18 wr => ∃ j : Nat, u18 = .int .i64 (j : Int) ∧ j ≤ 2 ∧ Aside0 (1 ≤ j → incR none a = true) ∧ Aside0 (2 ≤ j → incR none b = true) ∧ Aside0 (Below w1.heap.size w1 wr)) (fun u18 _ => 2 - (intOf u18).toNat)
  case atStart => exact ⟨0, rfl, by omega, ⟨fun h => by omega⟩, ⟨fun h => by omega⟩, ⟨Below.refl _ _⟩⟩
  case round =>
    obtain ⟨j, rfl, hj, HJ1, HJ2, HBR⟩ := hrel
    by_cases hj2 : j < 2
    · have hd : decide (j < 2) = true := decide_eq_true hj2
      obtain ⟨L, AL, cL, hcell, hL⟩ : ∃ (L : List S31) (AL : Option Addr) (cL : Nat), wr.cell? ⟨gr, j, none⟩ = some (.slice AL L.length cL) ∧ (Kd.C k31 wr AL L.length L ∧ L.length ≤ 1000000 ∧ ((j = 0 ∧ L = a) ∨ (j = 1 ∧ L = b))) := by
        obtain ⟨k0, k1⟩ := blk2 (blk_below HG1.out HBR.out)
        have hbw := below_step HB1.out HBR.out
        match j, hj2 with
        | 0, _ => exact ⟨a, A, ca, k0, Kd.C_below HA.out hbw, sa, .inl ⟨rfl, rfl⟩⟩
        | 1, _ => exact ⟨b, B, cb, k1, Kd.C_below HB.out hbw, sb, .inr ⟨rfl, rfl⟩⟩
      have HCL := Aside0.mk hL.1
      have hsl := hL.2.1
      have HL := Aside0.mk hL.2.2
      clear hL
      go_wp2_with fail
      go_loopw [24] (fun u24 wq => ∃ i : Nat, u24 = .int .i64 (i : Int) ∧ i ≤ L.length ∧ Aside0 (incR none L = incR (lastOf L i) (L.drop i)) ∧ Aside0 (Below wr.heap.size wr wq)) (fun u24 _ => L.length - (intOf u24).toNat)
      case atStart => exact ⟨0, rfl, Nat.zero_le _, ⟨rfl⟩, ⟨Below.refl _ _⟩⟩
      case round =>
        obtain ⟨i, rfl, hi, HE, HBQ⟩ := hrel
        by_cases hlt : i < L.length
        rotate_left
        · have hd2 : decide (i < L.length) = false := decide_eq_false hlt
          have hinc : incR none L = true := by rw [HE.out, incR_end L _ (by omega)]
          have HJ1' : Aside0 (1 ≤ j + 1 → incR none a = true) := ⟨fun _ => by
            rcases HL.out with ⟨_, e⟩ | ⟨e, _⟩
            · rw [← e]; exact hinc
            · exact HJ1.out (by omega)⟩
          have HJ2' : Aside0 (2 ≤ j + 1 → incR none b = true) := ⟨fun _ => by
            rcases HL.out with ⟨e, _⟩ | ⟨_, e⟩
            · omega
            · rw [← e]; exact hinc⟩
          clear hinc hcell
          go_wp2_with fail
          go_roundw
          case measure => simp [intOf]; omega
          case rel => exact ⟨j + 1, by go_num, by omega, HJ1', HJ2', ⟨below_step HBR.out HBQ.out⟩⟩
        have hd2 : decide (i < L.length) = true := decide_eq_true hlt
        obtain ⟨x, hx⟩ : ∃ x, L[i]? = some x := ⟨_, List.getElem?_eq_getElem hlt⟩
        have HST := Aside0.mk (incR_step L hx)
        clear hcell
        cases i with
        | zero =>
          have HE2 : Aside0 (incR none L = incR (lastOf L (0 + 1)) (L.drop (0 + 1))) := ⟨by rw [HE.out, HST.out]; rfl⟩
          clear HST HE hx
          go_upto_region 7 with fail
          go_region
          all_goals
            go_wp2_with fail
            go_roundw
            case measure => simp [intOf]; omega
            case rel => exact ⟨1, by go_num, by omega, HE2, ⟨below_drew HBQ.out⟩⟩
        | succ i =>
          obtain ⟨y, hy⟩ : ∃ y, L[i]? = some y := ⟨_, List.getElem?_eq_getElem (by omega)⟩
          obtain ⟨ad, x', rfl, hx', p0, _, _⟩ := hint_at (Kd.C_below HCL.out HBQ.out) (i + 1) hlt
          obtain ⟨ad2, y', hade, hy', q0, _, _⟩ := hint_at (Kd.C_below HCL.out HBQ.out) i (by omega)
          obtain rfl := Option.some.inj hade
          rw [hx] at hx'
          obtain rfl := Option.some.inj hx'
          rw [hy] at hy'
          obtain rfl := Option.some.inj hy'
          have hlast : lastOf L (i + 1) = some y.f0 := by
            unfold lastOf
            rw [if_neg (by omega), Nat.add_sub_cancel, hy]; rfl
          rw [hlast] at HST
          dsimp only at HST
          have hdi : decide (i < L.length) = true := decide_eq_true (by omega)
          have hwi : IntKind.i64.wrap ((i : Int) + 1 - 1) = (i : Int) := by rw [IntKind.wrap_i64]; omega
          obtain ⟨xo, hxo⟩ : ∃ v, v = x.f0 := ⟨_, rfl⟩
          obtain ⟨yo, hyo⟩ : ∃ v, v = y.f0 := ⟨_, rfl⟩
          rw [← hxo] at p0 HST
          rw [← hyo] at q0 HST hlast
          have hu := Try.underlying31
          by_cases hle : xo ≤ yo
          · have hdl : decide (xo ≤ yo) = true := decide_eq_true hle
            have hinc : incR none L = false := by rw [HE.out, hlast, HST.out, decide_eq_false (by omega), Bool.false_and]
            have HV : Aside0 (mergeF a b = ([], 1)) := ⟨by
              unfold mergeF
              rcases HL.out with ⟨_, e⟩ | ⟨_, e⟩
              · rw [← e, hinc, Bool.false_and]; rfl
              · rw [← e, hinc, Bool.and_false]; rfl⟩
            clear HST HE hx hy hlast hinc hle hxo hyo
            go_upto_region 7 with fail
            go_region
            all_goals
              go_wp2_with fail
              go_returns
              exact ⟨none, 0, by rw [HV.out]; rfl, by rw [HV.out]; exact Nat.le_refl _, by rw [HV.out]; exact Kd.C_nil _ _, below_step HB1.out (below_step HBR.out (below_drew HBQ.out))⟩
          · have hdl : decide (xo ≤ yo) = false := decide_eq_false hle
            have HE2 : Aside0 (incR none L = incR (lastOf L (i + 1 + 1)) (L.drop (i + 1 + 1))) := ⟨by rw [HE.out, hlast, HST.out, decide_eq_true (by omega), Bool.true_and]⟩
            clear HST HE hx hy hlast hle hxo hyo
            go_upto_region 7 with fail
            go_region
            all_goals
              go_wp2_with fail
              go_roundw
              case measure => simp [intOf]; omega
              case rel => exact ⟨i + 1 + 1, by go_num, by omega, HE2, ⟨below_drew HBQ.out⟩⟩
    · have hd : decide (j < 2) = false := decide_eq_false hj2
      have HI : Aside0 (incR none a = true ∧ incR none b = true) := ⟨HJ1.out (by omega), HJ2.out (by omega)⟩
      have HBW := Aside0.mk (below_step HB1.out HBR.out)
      clear HJ1 HJ2
      go_wp2_with fail
      refine (clone_hints A ca a wr (Kd.C_below HA.out HBW.out) hca (by omega)).mono ?_
      rintro e w2 ⟨v, rfl, hF, hB⟩
      obtain ⟨U, cu, rfl⟩ := Kd.R_slice hF
      have HU := Aside0.mk (Kd.R_reads' hF)
      have HB2 := Aside0.mk (below_step HBW.out hB)
      clear hF hB
      go_wp2_with fail
      go_loopw [9, 49] (fun u9 u49 wr => ∃ (i : Nat) (R : Option Addr) (cr : Nat), u49 = .int .i64 (i : Int) ∧ u9 = .slice R (mergeL a (b.take i)).length cr ∧ i ≤ b.length ∧ Aside0 ((mergeL a (b.take i)).length ≤ cr ∧ Kd.C k31 wr R (mergeL a (b.take i)).length (mergeL a (b.take i))) ∧ Aside0 (Below w.heap.size w wr)) (fun _ u49 _ => b.length - (intOf u49).toNat)
      case atStart => exact ⟨0, U, cu, rfl, rfl, Nat.zero_le _, ⟨HU.out.2⟩, HB2⟩
      case round =>
        obtain ⟨i, R, cr, rfl, rfl, hi, HO, HBX⟩ := hrel
        by_cases hlt : i < b.length
        rotate_left
        · have hd2 : decide (i < b.length) = false := decide_eq_false hlt
          have HV : Aside0 (mergeF a b = (mergeL a (b.take i), 0)) := ⟨by
            unfold mergeF
            rw [HI.out.1, HI.out.2, List.take_of_length_le (by omega)]; rfl⟩
          go_wp2_with fail
          go_returns
          exact ⟨R, cr, by rw [HV.out]; rfl, by rw [HV.out]; exact HO.out.1, by rw [HV.out]; exact HO.out.2, HBX.out⟩
        have hd2 : decide (i < b.length) = true := decide_eq_true hlt
        obtain ⟨ad, x, rfl, hx, p0, p1, p2⟩ := hint_at (Kd.C_below HB.out HBX.out) i hlt
        have hst := mergeL_step a b hx
        have hml := mergeL_len a (b.take i)
        rw [List.length_take, Nat.min_eq_left (by omega)] at hml
        obtain ⟨o, ho⟩ : ∃ o, o = mergeL a (b.take i) := ⟨_, rfl⟩
        rw [← ho] at hst hml HO ⊢
        have HST := Aside0.mk hst
        have hu := Try.underlying31
        clear hst ho hx
        go_upto_region 15 with fail
        obtain ⟨gx, hgx⟩ : ∃ g, g = wr.heap.size := ⟨_, rfl⟩
        obtain ⟨W, hW⟩ : ∃ W, W = wr.alloc (Obj.cells #[Value.int IntKind.i64 x.f0, Value.int IntKind.i64 x.f1, Value.int IntKind.i64 x.f2] 31) := ⟨_, rfl⟩
        rw [← hW, ← hgx]
        have hBW : Below wr.heap.size wr W := by rw [hW]; exact below_alloc (Below.refl _ _) _
        have HX : Aside0 (W.heap[gx]? = some (.cells #[.int .i64 x.f0, .int .i64 x.f1, .int .i64 x.f2] 31 (0, 0))) := ⟨by rw [hW, hgx]; exact heap_alloc_new _ _⟩
        have HBW2 := Aside0.mk (below_step HBX.out hBW)
        have HOW := Aside0.mk (Kd.C_below HO.out.2 hBW)
        have hocr : o.length ≤ cr := HO.out.1
        clear hW hgx hBW p0 p1 p2 HO
        obtain ⟨k0, k1, k2, _, _, _⟩ := blk3 HX.out
        go_wp2_with fail
        refine (look_any R cr o x.f0 W HOW.out hocr (by omega)).mono ?_
        rintro e w3 ⟨rfl, hB⟩
        simp only [hintV]
        obtain ⟨lk, hlk⟩ : ∃ h, h = lookL o x.f0 := ⟨_, rfl⟩
        obtain ⟨lb, hlb⟩ : ∃ h, h = atB o x.f0 := ⟨_, rfl⟩
        have HTL : Aside0 (tlL o x = if (lb && decide (x.f2 ≤ lk.f2)) = true then o else putL o x) := ⟨by rw [hlk, hlb]; rfl⟩
        rw [← hlk, ← hlb]
        clear hlk hlb k0 k1 k2
        obtain ⟨gy, hgy⟩ : ∃ g, g = w3.heap.size := ⟨_, rfl⟩
        obtain ⟨W2, hW2⟩ : ∃ W, W = w3.alloc (Obj.cells #[Value.int IntKind.i64 lk.f0, Value.int IntKind.i64 lk.f1, Value.int IntKind.i64 lk.f2] 31) := ⟨_, rfl⟩
        have hBW3 : Below W.heap.size W W2 := by rw [hW2]; exact below_alloc hB _
        have HX2 := Aside0.mk (blk_below HX.out hBW3)
        have HY2 : Aside0 (W2.heap[gy]? = some (.cells #[.int .i64 lk.f0, .int .i64 lk.f1, .int .i64 lk.f2] 31 (0, 0))) := ⟨by rw [hW2, hgy]; exact heap_alloc_new _ _⟩
        have HB3 := Aside0.mk (below_step HBW2.out hBW3)
        have HO3 := Aside0.mk (Kd.C_below HOW.out hBW3)
        clear hB hBW3 HX HOW
        go_upto_region 16 with fail
        rw [← hW2, ← hgy]
        clear hW2 hgy
        obtain ⟨k0, k1, k2, _, _, _⟩ := blk3 HX2.out
        obtain ⟨m0, m1, m2, _, _, _⟩ := blk3 HY2.out
        have key : (lb = true ∧ x.f2 ≤ lk.f2) ∨ lb = false ∨ (lb = true ∧ ¬ x.f2 ≤ lk.f2) := by
          cases lb
          · exact .inr (.inl rfl)
          · by_cases h : x.f2 ≤ lk.f2
            · exact .inl ⟨rfl, h⟩
            · exact .inr (.inr ⟨rfl, h⟩)
        rcases key with ⟨rfl, hle⟩ | rfl | ⟨rfl, hle⟩
        · have dle : decide (lk.f2 < x.f2) = false := decide_eq_false (by omega)
          have HE : Aside0 (mergeL a (b.take (i + 1)) = o) := ⟨by rw [HST.out, HTL.out, decide_eq_true hle]; rfl⟩
          clear hle
          go_wp2_with fail
          go_roundw
          case measure => simp [intOf]; omega
          case rel => exact ⟨i + 1, R, cr, by go_num, by rw [HE.out], by omega, ⟨by rw [HE.out]; exact ⟨hocr, HO3.out⟩⟩, HB3⟩
        · have HE : Aside0 (mergeL a (b.take (i + 1)) = putL o x) := ⟨by rw [HST.out, HTL.out]; rfl⟩
          go_wp2_with fail
          refine (put_any R cr o x W2 HO3.out hocr (by omega)).mono ?_
          rintro e w4 ⟨v, rfl, hF, hB⟩
          obtain ⟨U2, cu2, rfl⟩ := Kd.R_slice hF
          have HU2 := Aside0.mk (Kd.R_reads' hF)
          have HB4 := Aside0.mk (below_step HB3.out hB)
          clear hF hB k0 k1 k2 m0 m1 m2
          go_wp2_with fail
          go_roundw
          case measure => simp [intOf]; omega
          case rel => exact ⟨i + 1, U2, cu2, by go_num, by rw [HE.out], by omega, ⟨by rw [HE.out]; exact HU2.out.2⟩, HB4⟩
        · have dle : decide (lk.f2 < x.f2) = true := decide_eq_true (by omega)
          have HE : Aside0 (mergeL a (b.take (i + 1)) = putL o x) := ⟨by rw [HST.out, HTL.out, decide_eq_false hle]; rfl⟩
          clear hle
          go_wp2_with fail
          refine (put_any R cr o x W2 HO3.out hocr (by omega)).mono ?_
          rintro e w4 ⟨v, rfl, hF, hB⟩
          obtain ⟨U2, cu2, rfl⟩ := Kd.R_slice hF
          have HU2 := Aside0.mk (Kd.R_reads' hF)
          have HB4 := Aside0.mk (below_step HB3.out hB)
          clear hF hB k0 k1 k2 m0 m1 m2
          go_wp2_with fail
          go_roundw
          case measure => simp [intOf]; omega
          case rel => exact ⟨i + 1, U2, cu2, by go_num, by rw [HE.out], by omega, ⟨by rw [HE.out]; exact HU2.out.2⟩, HB4⟩
end Go.Proofs.Ytjnceoohlcchnaa.Print

/-! what is newer stays -/
namespace Go.Proofs.Ytjnceoohlcchnaa.Print
open Go Go.RowKit Go.Deep Go.Proofs.YtjnceoohlcchnaaW.PrintWords Go.Proofs.YtjnceoohlcchnaaW.PrintLast Go.Proofs.YtjnceoohlcchnaaW.PrintMore
theorem inc_iff : ∀ (l : List S31) (o : Option Int), incR o l = true ↔ (∀ q, o = some q → ∀ h ∈ l, q < h.f0) ∧ Sorted l
  | [], o => by
    rw [incR_nil]
    exact ⟨fun _ => ⟨fun _ _ h hh => (by cases hh), List.Pairwise.nil⟩, fun _ => rfl⟩
  | h :: l, o => by
    rw [incR_cons, Bool.and_eq_true, inc_iff l (some h.f0)]
    constructor
    · rintro ⟨a2, b1, b2⟩
      refine ⟨fun q hq y hy => ?_, List.pairwise_cons.2 ⟨fun y hy => b1 _ rfl y hy, b2⟩⟩
      subst hq
      have a2' : q < h.f0 := by simpa using a2
      rcases List.mem_cons.1 hy with rfl | hy
      · exact a2'
      · have := b1 _ rfl y hy; omega
    · rintro ⟨b1, b2⟩
      obtain ⟨s1, s2⟩ := List.pairwise_cons.1 b2
      refine ⟨?_, fun q hq y hy => by cases hq; exact s1 y hy, s2⟩
      cases o with
      | none => rfl
      | some q => exact decide_eq_true (b1 q rfl h (List.mem_cons_self ..))
theorem inc_sorted (l : List S31) : incR none l = true ↔ Sorted l := by
  rw [inc_iff]
  exact ⟨fun h => h.2, fun h => ⟨fun q hq => (by cases hq), h⟩⟩
theorem tlL_sorted {l : List S31} (hs : Sorted l) (h : S31) : Sorted (tlL l h) := by
  unfold tlL
  split
  · exact hs
  · exact put_sorted hs h
theorem tlL_mem {l : List S31} (hs : Sorted l) (h x : S31) : x ∈ tlL l h ↔ (x ∈ l ∧ ¬ (x.f0 = h.f0 ∧ x.f2 < h.f2)) ∨ (x = h ∧ ∀ y ∈ l, y.f0 = h.f0 → y.f2 < h.f2) := by
  unfold tlL
  split
  · next c =>
    rw [Bool.and_eq_true, decide_eq_true_iff] at c
    obtain ⟨c1, c2⟩ := c
    obtain ⟨d1, d2⟩ := at_found c1
    constructor
    · intro hx
      refine .inl ⟨hx, fun e => ?_⟩
      have := sorted_eq hs hx d1 (by rw [d2]; exact e.1)
      rw [← this] at c2
      omega
    · rintro (hx | ⟨rfl, hx⟩)
      · exact hx.1
      · have := hx _ d1 d2; omega
  · next c =>
    rw [put_mem]
    have key : ∀ y ∈ l, y.f0 = h.f0 → y.f2 < h.f2 := fun y hy e => by
      obtain ⟨d1, d2⟩ := look_of_mem hs hy
      rw [e] at d1 d2
      rw [d1, d2, Bool.true_and, decide_eq_true_iff] at c
      omega
    constructor
    · rintro (e | ⟨e1, e2⟩)
      · exact .inr ⟨e, key⟩
      · exact .inl ⟨e1, fun c => e2 c.1⟩
    · rintro (⟨e1, e2⟩ | ⟨e, _⟩)
      · exact .inr ⟨e1, fun c => e2 ⟨c, key x e1 c⟩⟩
      · exact .inl e
theorem mergeL_sorted : ∀ (b : List S31) {a : List S31}, Sorted a → Sorted (mergeL a b)
  | [], _, h => h
  | x :: b, a, h => mergeL_sorted b (a := tlL a x) (tlL_sorted h x)
theorem mergeL_mem : ∀ (b : List S31) {a : List S31}, Sorted a → Sorted b → ∀ x : S31, x ∈ mergeL a b ↔ (x ∈ a ∧ ∀ y ∈ b, y.f0 = x.f0 → y.f2 ≤ x.f2) ∨ (x ∈ b ∧ ∀ y ∈ a, y.f0 = x.f0 → y.f2 < x.f2)
  | [], a, _, _, x => by
    show x ∈ a ↔ _
    exact ⟨fun h => .inl ⟨h, fun y hy => by cases hy⟩, fun h => h.elim (·.1) (fun c => by cases c.1)⟩
  | h :: b, a, ha, hb, x => by
    obtain ⟨s1, s2⟩ := List.pairwise_cons.1 hb
    show x ∈ mergeL (tlL a h) b ↔ _
    rw [mergeL_mem b (tlL_sorted ha h) s2 x]
    simp only [tlL_mem ha h]
    constructor
    · rintro (⟨⟨c1, c2⟩ | ⟨rfl, c2⟩, d⟩ | ⟨c, d⟩)
      · refine .inl ⟨c1, fun y hy e => ?_⟩
        rcases List.mem_cons.1 hy with rfl | hy
        · have : ¬ x.f2 < y.f2 := fun k => c2 ⟨e.symm, k⟩
          omega
        · exact d y hy e
      · exact .inr ⟨List.mem_cons_self .., c2⟩
      · refine .inr ⟨List.mem_cons_of_mem _ c, fun y hy e => ?_⟩
        have hn := s1 x c
        exact d y (.inl ⟨hy, fun k => by omega⟩) e
    · rintro (⟨c, d⟩ | ⟨c, d⟩)
      · refine .inl ⟨.inl ⟨c, fun k => ?_⟩, fun y hy e => d y (List.mem_cons_of_mem _ hy) e⟩
        have := d h (List.mem_cons_self ..) k.1.symm
        omega
      · rcases List.mem_cons.1 c with rfl | cm
        · refine .inl ⟨.inr ⟨rfl, d⟩, fun y hy e => ?_⟩
          have := s1 y hy; omega
        · refine .inr ⟨cm, fun y hy e => ?_⟩
          rcases hy with ⟨hy, _⟩ | ⟨rfl, _⟩
          · exact d y hy e
          · have := s1 x cm; omega
theorem merge_again {a b : List S31} (ha : Sorted a) (hb : Sorted b) : mergeL (mergeL a b) b = mergeL a b := by
  have hm := mergeL_sorted b ha
  refine sorted_ext (mergeL_sorted b hm) hm (fun x => ?_)
  rw [mergeL_mem b hm hb x]
  have key : ∀ x ∈ b, ∃ y ∈ mergeL a b, y.f0 = x.f0 ∧ x.f2 ≤ y.f2 := fun x hx => by
    by_cases c : ∀ y ∈ a, y.f0 = x.f0 → y.f2 < x.f2
    · exact ⟨x, (mergeL_mem b ha hb x).2 (.inr ⟨hx, c⟩), rfl, Int.le_refl _⟩
    · have : ∃ y ∈ a, y.f0 = x.f0 ∧ x.f2 ≤ y.f2 := Classical.byContradiction fun k => c fun y hy e => Classical.byContradiction fun k2 => k ⟨y, hy, e, by omega⟩
      obtain ⟨y, hy, e, k⟩ := this
      exact ⟨y, (mergeL_mem b ha hb y).2 (.inl ⟨hy, fun z hz ez => by
        have := sorted_eq hb hz hx (by rw [ez, e])
        rw [this]; exact k⟩), e, k⟩
  constructor
  · rintro (h | ⟨h1, h2⟩)
    · exact h.1
    · obtain ⟨y, hy, e, k⟩ := key x h1
      have := h2 y hy e
      omega
  · intro h
    refine .inl ⟨h, fun y hy e => ?_⟩
    obtain ⟨z, hz, ez, k⟩ := key y hy
    have := sorted_eq hm hz h (by rw [ez, e])
    rw [← this]; exact k
def eqTime (a b : List S31) : Bool := a.any fun x => b.any fun y => (x.f0 == y.f0) && (x.f2 == y.f2)
theorem merge_turned {a b : List S31} (ha : Sorted a) (hb : Sorted b) (he : eqTime a b = false) : mergeL a b = mergeL b a := by
  have key : ∀ x ∈ a, ∀ y ∈ b, x.f0 = y.f0 → x.f2 ≠ y.f2 := fun x hx y hy e k => by
    have : eqTime a b = true := List.any_eq_true.2 ⟨x, hx, List.any_eq_true.2 ⟨y, hy, by rw [e, k]; simp⟩⟩
    rw [he] at this; cases this
  refine sorted_ext (mergeL_sorted b ha) (mergeL_sorted a hb) (fun x => ?_)
  rw [mergeL_mem b ha hb x, mergeL_mem a hb ha x]
  constructor
  · rintro (⟨h1, h2⟩ | ⟨h1, h2⟩)
    · refine .inr ⟨h1, fun y hy e => ?_⟩
      have := h2 y hy e
      have := key x h1 y hy e.symm
      omega
    · exact .inl ⟨h1, fun y hy e => Int.le_of_lt (h2 y hy e)⟩
  · rintro (⟨h1, h2⟩ | ⟨h1, h2⟩)
    · refine .inr ⟨h1, fun y hy e => ?_⟩
      have := h2 y hy e
      have := key y hy x h1 e
      omega
    · exact .inl ⟨h1, fun y hy e => Int.le_of_lt (h2 y hy e)⟩
theorem mergeF_turned (a b : List S31) : (mergeF a b).2 = (mergeF b a).2 := by
  unfold mergeF
  rw [Bool.and_comm (incR none b)]
  split <;> rfl
structure MergeOk (a b : List S31) (l k : List S31) : Prop where
  ab : mergeF a b = (l, 0)
  ba : mergeF b a = (k, 0)
  again : mergeF l b = (l, 0)
  eq : eqTime a b = true ∨ l = k
  len : l.length ≤ a.length + b.length
theorem tlL_length {l : List S31} (hs : Sorted l) (h : S31) : (tlL l h).length ≤ l.length + 1 := by
  unfold tlL
  split
  · omega
  · rw [put_length hs]; split <;> omega
theorem mergeL_length : ∀ (b : List S31) {a : List S31}, Sorted a → (mergeL a b).length ≤ a.length + b.length
  | [], _, _ => Nat.le_refl _
  | x :: b, a, h => by
    have := mergeL_length b (tlL_sorted h x)
    have := tlL_length h x
    show (mergeL (tlL a x) b).length ≤ _
    rw [List.length_cons]; omega
theorem merge_ok {a b : List S31} (h : (mergeF a b).2 = 0) : ∃ l k, MergeOk a b l k := by
  unfold mergeF at h
  by_cases c : (incR none a && incR none b) = true
  rotate_left
  · rw [if_neg c] at h; cases h
  have c2 := c
  rw [Bool.and_eq_true, inc_sorted, inc_sorted] at c2
  obtain ⟨ha, hb⟩ := c2
  refine ⟨mergeL a b, mergeL b a, ?_, ?_, ?_, ?_, mergeL_length b ha⟩
  · unfold mergeF; rw [if_pos c]
  · unfold mergeF; rw [Bool.and_comm, if_pos c]
  · unfold mergeF; rw [(inc_sorted _).2 (mergeL_sorted b ha), (inc_sorted b).2 hb, merge_again ha hb]; rfl
  · cases he : eqTime a b with
    | true => exact .inl rfl
    | false => exact .inr (merge_turned ha hb he)
/-! being told -/
theorem more_has {l : List S36} {g h : S31} {i : Nat} : HasAt (moreL l g) i h ↔ HasAt l i h := by
  unfold HasAt moreL
  constructor
  · rintro ⟨p, hp, hm⟩
    by_cases c : i < l.length
    · rw [List.getElem?_append_left c] at hp; exact ⟨p, hp, hm⟩
    · rw [List.getElem?_append_right (by omega)] at hp
      cases e : i - l.length with
      | zero => rw [e] at hp; cases hp; cases hm
      | succ k => rw [e] at hp; cases hp
  · rintro ⟨p, hp, hm⟩
    refine ⟨p, ?_, hm⟩
    obtain ⟨c, _⟩ := List.getElem?_eq_some_iff.1 hp
    rw [List.getElem?_append_left c]; exact hp
theorem more_hint {l : List S36} {g h : S31} {i : Nat} : HintAt (moreL l g) i h ↔ HintAt l i h ∨ (i = l.length ∧ h = g) := by
  unfold HintAt moreL
  constructor
  · rintro ⟨p, hp, hm⟩
    by_cases c : i < l.length
    · rw [List.getElem?_append_left c] at hp; exact .inl ⟨p, hp, hm⟩
    · rw [List.getElem?_append_right (by omega)] at hp
      cases e : i - l.length with
      | zero =>
        rw [e] at hp; cases hp
        rw [List.mem_singleton] at hm
        exact .inr ⟨by omega, hm⟩
      | succ k => rw [e] at hp; cases hp
  · rintro (⟨p, hp, hm⟩ | ⟨rfl, rfl⟩)
    · refine ⟨p, ?_, hm⟩
      obtain ⟨c, _⟩ := List.getElem?_eq_some_iff.1 hp
      rw [List.getElem?_append_left c]; exact hp
    · exact ⟨⟨true, [], [h]⟩, by rw [List.getElem?_append_right (Nat.le_refl _), Nat.sub_self]; rfl, List.mem_singleton.2 rfl⟩
theorem more_agrees {l : List S36} {g : S31} {n : Int} (hv : Vat (moreL l g) n) : Agrees l g :=
  ⟨fun j h hh e t => hv.same j l.length h g (more_hint.2 (.inl hh)) (more_hint.2 (.inr ⟨rfl, rfl⟩)) e t, fun j h hh e => hv.older j l.length h g (more_has.2 hh) (more_hint.2 (.inr ⟨rfl, rfl⟩)) e⟩
theorem listed_more {l : List S31} {n m : Int} (h : Listed l n) (hm : n ≤ m) : Listed l m := ⟨h.len, h.sorted, fun x hx => by obtain ⟨a, b, c, d, e⟩ := h.all x hx; exact ⟨a, b, c, d, by omega⟩⟩
theorem more_vat {l : List S36} {g : S31} {n m : Int} (hv : Vat l n) (hm : n ≤ m) (hg : HintV m g) (ha : Agrees l g) : Vat (moreL l g) m := by
  refine ⟨fun p hp => ?_, fun j h hh => hv.here j h (more_has.1 hh), fun j x y hx hy => ?_, fun i j x y hx hy => hv.once i j x y (more_has.1 hx) (more_has.1 hy), fun i j x y hx hy e t => ?_, fun i j x y hx hy e => ?_⟩
  · rcases List.mem_append.1 hp with hp | hp
    · have := hv.ok p hp
      exact ⟨listed_more this.has hm, listed_more this.hints hm, this.down⟩
    · rw [List.mem_singleton] at hp
      subst hp
      refine ⟨⟨Nat.zero_le _, List.Pairwise.nil, fun x hx => by cases hx⟩, ⟨(by rw [List.length_singleton]; omega), List.pairwise_singleton _ _, fun x hx => ?_⟩, fun e => by cases e⟩
      rw [List.mem_singleton] at hx
      subst hx
      exact ⟨hg.oid, hg.t0, hg.t1, hg.p0, hg.p1⟩
  · rcases more_hint.1 hy with hy | ⟨rfl, rfl⟩
    · exact hv.apart j x y (more_has.1 hx) hy
    · obtain ⟨p, hp, _⟩ := more_has.1 hx
      obtain ⟨c, _⟩ := List.getElem?_eq_some_iff.1 hp
      omega
  · rcases more_hint.1 hx with hx | ⟨_, rfl⟩
    · rcases more_hint.1 hy with hy | ⟨_, rfl⟩
      · exact hv.same i j x y hx hy e t
      · exact ha.1 i x (by assumption) e t
    · rcases more_hint.1 hy with hy | ⟨_, rfl⟩
      · exact (ha.1 j y hy e.symm t.symm).symm
      · rfl
  · rcases more_hint.1 hy with hy | ⟨_, rfl⟩
    · exact hv.older i j x y (more_has.1 hx) hy e
    · exact ha.2 i x (more_has.1 hx) e
structure TellOk (l : List S36) (place : Int) (g : S31) (i : Nat) (x : S36) : Prop where
  chk : checkF l = true
  pl : place = (i : Int)
  lt : i < l.length
  at' : l[i]? = some x
  up : x.f0 = true
  hv : HintV l.length g
  ag : Agrees l g
  res : tellG l place g = ((tellF l i g).2, 0)
  tru : (tellF l i g).1 = true
theorem tell_ok {l : List S36} {place : Int} {g : S31} (h : (tellG l place g).2 = 0) : ∃ i x, TellOk l place g i x := by
  unfold tellG at h
  by_cases c : givenC l (decide (1 ≤ g.f0)) [place] = 0
  rotate_left
  · rw [if_neg c] at h; exact absurd h c
  rw [if_pos c] at h
  by_cases d : (!(postA l place).f0 || (!listF [g] l.length || !validF (moreL l g) (l.length + 1 : Nat))) = true
  · rw [if_pos d] at h; cases h
  rw [if_neg d] at h
  by_cases e : (tellF l place.toNat g).1 = true
  rotate_left
  · rw [if_neg e] at h; cases h
  obtain ⟨_, hc, _, _⟩ := given_in c
  obtain ⟨i, hpi, hil, hx⟩ := given_post c
  have d2 := d
  simp only [Bool.or_eq_true, Bool.not_eq_true', not_or, Bool.not_eq_false] at d2
  obtain ⟨d3, d4, d5⟩ := d2
  have hg := ((listF_iff _ _).1 d4).all g (List.mem_singleton.2 rfl)
  have hvm := (vat_iff _ _).1 ((valid_iff _ _).1 d5)
  refine ⟨i, postA l place, hc, hpi, hil, hx, d3, ⟨hg.1, hg.2.1, hg.2.2.1, hg.2.2.2.1, hg.2.2.2.2⟩, more_agrees hvm, ?_, ?_⟩
  · unfold tellG
    rw [if_pos c, if_neg d, if_pos e, hpi, Int.toNat_natCast]
  · rw [hpi, Int.toNat_natCast] at e; exact e
theorem TellOk.more {l : List S36} {place : Int} {g : S31} {i : Nat} {x : S36} (t : TellOk l place g i x)  : checkF (tellF l i g).2 = true := by
  have hm := (check_iff l).1 t.chk
  have hv := check_vat t.chk
  refine (check_iff _).2 ⟨by rw [tell_len]; exact hm.one, by rw [tell_len]; exact hm.most, ?_⟩
  rw [tell_len]
  exact (vat_iff _ _).2 (vat_tell hv t.at' t.hv t.up t.ag)
/-- a place that is told -/
def tp (p : S36) (h : S31) : S36 := if atB p.f1 h.f0 = true then p else ⟨p.f0, p.f1, tlL p.f2 h⟩
theorem tell_tp {l : List S36} {i : Nat} {x : S36} (hi : l[i]? = some x) {h : S31} (ht : (tellF l i h).1 = true) : (tellF l i h).2 = l.set i (tp x h) := by
  have hs : l.set i x = l := by
    refine List.ext_getElem? fun j => ?_
    rw [set_at hi]
    by_cases e : j = i
    · rw [if_pos e, e, hi]
    · rw [if_neg e]
  unfold tellF at ht ⊢
  rw [postA_some hi] at ht ⊢
  unfold tp
  by_cases c1 : atB x.f1 h.f0 = true
  · rw [if_pos c1, if_pos c1, hs]
  rw [if_neg c1] at ht ⊢
  rw [if_neg c1]
  unfold tlL
  by_cases c2 : (atB x.f2 h.f0 && decide (h.f2 ≤ (lookL x.f2 h.f0).f2)) = true
  · rw [if_pos c2, if_pos c2, hs]
  rw [if_neg c2] at ht ⊢
  rw [if_neg c2]
  by_cases c3 : (!atB x.f2 h.f0 && decide (4000 ≤ x.f2.length)) = true
  · rw [if_pos c3] at ht; cases ht
  · rw [if_neg c3]
theorem tlL_twice {l : List S31} (hs : Sorted l) (g : S31) : tlL (tlL l g) g = tlL l g := by
  have h1 := tlL_sorted hs g
  refine sorted_ext (tlL_sorted h1 g) h1 (fun x => ?_)
  rw [tlL_mem h1]
  constructor
  · rintro (⟨a, _⟩ | ⟨rfl, a⟩)
    · exact a
    · have : ∀ y ∈ l, y.f0 = x.f0 → y.f2 < x.f2 := fun y hy e => Classical.byContradiction fun k => by
        have := a y ((tlL_mem hs x y).2 (.inl ⟨hy, fun c => k c.2⟩)) e
        exact k this
      exact (tlL_mem hs x x).2 (.inr ⟨rfl, this⟩)
  · intro h
    refine .inl ⟨h, fun c => ?_⟩
    rcases (tlL_mem hs g x).1 h with ⟨_, d⟩ | ⟨rfl, _⟩
    · exact d c
    · omega
theorem tlL_turned {l : List S31} (hs : Sorted l) {g h : S31} (e : g.f0 ≠ h.f0 ∨ g.f2 ≠ h.f2) : tlL (tlL l g) h = tlL (tlL l h) g := by
  have h1 := tlL_sorted hs g
  have h2 := tlL_sorted hs h
  have half : ∀ (a b : S31), (a.f0 ≠ b.f0 ∨ a.f2 ≠ b.f2) → ∀ x, x ∈ tlL (tlL l a) b → x ∈ tlL (tlL l b) a := fun a b e x => by
    rw [tlL_mem (tlL_sorted hs a), tlL_mem (tlL_sorted hs b), tlL_mem hs, tlL_mem hs]
    rintro (⟨⟨c1, c2⟩ | ⟨rfl, c2⟩, c3⟩ | ⟨rfl, c2⟩)
    · exact .inl ⟨.inl ⟨c1, c3⟩, c2⟩
    · refine .inr ⟨rfl, fun y hy ey => ?_⟩
      rcases (tlL_mem hs b y).1 hy with ⟨d1, _⟩ | ⟨rfl, _⟩
      · exact c2 y d1 ey
      · by_cases k : x.f2 < y.f2
        · exact absurd ⟨ey.symm, k⟩ c3
        · have : x.f2 ≠ y.f2 := e.resolve_left (fun q => q ey.symm)
          omega
    · have : ∀ y ∈ l, y.f0 = x.f0 → y.f2 < x.f2 := fun y hy ey => Classical.byContradiction fun k => by
        by_cases q : y.f0 = a.f0 ∧ y.f2 < a.f2
        · by_cases z : ∀ u ∈ l, u.f0 = a.f0 → u.f2 < a.f2
          · have := c2 a ((tlL_mem hs a a).2 (.inr ⟨rfl, z⟩)) (by rw [← q.1]; exact ey)
            omega
          · refine z (fun u hu eu => ?_)
            rw [sorted_eq hs hu hy (by rw [eu]; exact q.1.symm)]
            exact q.2
        · exact k (c2 y ((tlL_mem hs a y).2 (.inl ⟨hy, q⟩)) ey)
      refine .inl ⟨.inr ⟨rfl, this⟩, fun c => ?_⟩
      by_cases z : ∀ u ∈ l, u.f0 = a.f0 → u.f2 < a.f2
      · have := c2 a ((tlL_mem hs a a).2 (.inr ⟨rfl, z⟩)) c.1.symm
        omega
      · refine z (fun u hu eu => ?_)
        have := this u hu (by rw [eu]; exact c.1.symm)
        omega
  exact sorted_ext (tlL_sorted h1 h) (tlL_sorted h2 g) (fun x => ⟨half g h e x, half h g (e.imp Ne.symm Ne.symm) x⟩)
theorem tp_twice {p : S36} (hs : Sorted p.f2) (g : S31) : tp (tp p g) g = tp p g := by
  unfold tp
  by_cases c : atB p.f1 g.f0 = true
  · rw [if_pos c, if_pos c]
  · rw [if_neg c]
    dsimp only
    rw [if_neg c, tlL_twice hs]
theorem tp_turned {p : S36} (hs : Sorted p.f2) {g h : S31} (e : g.f0 ≠ h.f0 ∨ g.f2 ≠ h.f2) : tp (tp p g) h = tp (tp p h) g := by
  unfold tp
  by_cases c : atB p.f1 g.f0 = true
  · rw [if_pos c]
    by_cases d : atB p.f1 h.f0 = true
    · rw [if_pos d, if_pos c]
    · rw [if_neg d]; dsimp only; rw [if_pos c]
  · rw [if_neg c]
    by_cases d : atB p.f1 h.f0 = true
    · dsimp only; rw [if_pos d, if_pos d, if_neg c]
    · dsimp only; rw [if_neg d, if_neg d]; dsimp only; rw [if_neg c, tlL_turned hs e]
theorem tp_up (p : S36) (h : S31) : (tp p h).f0 = p.f0 ∧ (tp p h).f1 = p.f1 := by
  unfold tp
  split <;> exact ⟨rfl, rfl⟩
structure ToldOk (l : List S36) (place : Int) (g h : S31) (x y : List S36) : Prop where
  tg : tellG l place g = (x, 0)
  th : tellG l place h = (y, 0)
  cx : checkF x = true
  cy : checkF y = true
  ag : tellG x place g = (x, 0)
  uv : (tellG x place h).2 = 0 → (tellG y place g).2 = 0 → (g.f0 ≠ h.f0 ∨ g.f2 ≠ h.f2 ∨ (g.f0 = h.f0 ∧ g.f1 = h.f1 ∧ g.f2 = h.f2)) → (tellG x place h).1 = (tellG y place g).1
theorem TellOk.again {l : List S36} {place : Int} {g : S31} {i : Nat} {x : S36} (t : TellOk l place g i x) : tellG (tellF l i g).2 place g = ((tellF l i g).2, 0) := by
  have hc := t.more
  have hv := check_vat t.chk
  have hl := tell_len l i g
  have hs := (hv.ok x (List.mem_of_getElem? t.at')).hints.sorted
  have hat : (tellF l i g).2[i]? = some (tp x g) := by rw [tell_tp t.at' t.tru, set_at t.at', if_pos rfl]
  have hvm : validF (moreL (tellF l i g).2 g) ((tellF l i g).2.length + 1 : Nat) = true := by
    rw [hl]
    have h2 := vat_tell hv t.at' t.hv t.up t.ag
    exact (valid_iff _ _).2 ((vat_iff _ _).2 (more_vat h2 (by omega) ⟨t.hv.oid, t.hv.t0, t.hv.t1, t.hv.p0, by have := t.hv.p1; omega⟩ (agrees_tell t.at' t.ag)))
  have hg : givenC (tellF l i g).2 (decide (1 ≤ g.f0)) [place] = 0 := given_of hc (decide_eq_true t.hv.oid) (fun p hp => by rw [List.mem_singleton] at hp; rw [hp, hl, t.pl]; have := t.lt; omega)
  have hls : listF [g] (tellF l i g).2.length = true := by
    rw [hl]
    exact (listF_iff _ _).2 ⟨(by rw [List.length_singleton]; omega), List.pairwise_singleton _ _, fun y hy => by rw [List.mem_singleton] at hy; subst hy; exact ⟨t.hv.oid, t.hv.t0, t.hv.t1, t.hv.p0, t.hv.p1⟩⟩
  have htt : tellF (tellF l i g).2 i g = (true, (tellF l i g).2) := by
    have key : atB (tp x g).f1 g.f0 = true ∨ (atB (tp x g).f2 g.f0 && decide (g.f2 ≤ (lookL (tp x g).f2 g.f0).f2)) = true := by
      unfold tp
      by_cases c : atB x.f1 g.f0 = true
      · rw [if_pos c]; exact .inl c
      · rw [if_neg c]
        dsimp only
        right
        have hs2 := tlL_sorted hs g
        by_cases z : ∀ u ∈ x.f2, u.f0 = g.f0 → u.f2 < g.f2
        · obtain ⟨q1, q2⟩ := look_of_mem hs2 ((tlL_mem hs g g).2 (.inr ⟨rfl, z⟩))
          rw [q1, q2]; simp
        · have : ∃ u ∈ x.f2, u.f0 = g.f0 ∧ g.f2 ≤ u.f2 := Classical.byContradiction fun k => z fun y hy e => Classical.byContradiction fun k2 => k ⟨y, hy, e, by omega⟩
          obtain ⟨u, hu, e, k⟩ := this
          obtain ⟨q1, q2⟩ := look_of_mem hs2 ((tlL_mem hs g u).2 (.inl ⟨hu, fun c => by omega⟩))
          rw [e] at q1 q2
          rw [q1, q2, decide_eq_true k]; rfl
    unfold tellF
    unfold tellF at hat
    rw [postA_some hat]
    rcases key with k | k
    · rw [if_pos k]
    · by_cases k0 : atB (tp x g).f1 g.f0 = true
      · rw [if_pos k0]
      · rw [if_neg k0, if_pos k]
  unfold tellG
  have e1 : place.toNat = i := by rw [t.pl, Int.toNat_natCast]
  have e2 : (postA (tellF l i g).2 place).f0 = true := by rw [t.pl, postA_some hat, (tp_up x g).1]; exact t.up
  rw [if_pos hg, e2, hls, hvm, e1, htt]
  rfl
theorem told_ok {l : List S36} {place : Int} {g h : S31} (h1 : (tellG l place g).2 = 0) (h2 : (tellG l place h).2 = 0) : ∃ x y, ToldOk l place g h x y := by
  obtain ⟨i, p, t⟩ := tell_ok h1
  obtain ⟨j, q, u⟩ := tell_ok h2
  have hij : j = i := by have := t.pl; have := u.pl; omega
  subst hij
  have hpq : q = p := by have := t.at'; rw [u.at'] at this; cases this; rfl
  subst hpq
  have hs := ((check_vat t.chk).ok q (List.mem_of_getElem? t.at')).hints.sorted
  refine ⟨_, _, t.res, u.res, t.more, u.more, t.again, fun a b c => ?_⟩
  obtain ⟨i1, p1, t1⟩ := tell_ok a
  obtain ⟨i2, p2, t2⟩ := tell_ok b
  have e1 : i1 = j := by have := t.pl; have := t1.pl; omega
  have e2 : i2 = j := by have := t.pl; have := t2.pl; omega
  subst e1
  subst e2
  have ht := tell_tp t.at' t.tru
  have hu := tell_tp u.at' u.tru
  have a1 : (tellF l i2 g).2[i2]? = some (tp q g) := by rw [ht, set_at t.at', if_pos rfl]
  have a2 : (tellF l i2 h).2[i2]? = some (tp q h) := by rw [hu, set_at t.at', if_pos rfl]
  rw [t1.res, t2.res, tell_tp a1 (by have := t1.tru; exact this), tell_tp a2 t2.tru, ht, hu, List.set_set, List.set_set]
  rcases c with c | c | ⟨c1, c2, c3⟩
  · rw [tp_turned hs (.inl c)]
  · rw [tp_turned hs (.inr c)]
  · obtain ⟨g0, g1, g2⟩ := g
    obtain ⟨h0, h1, h2⟩ := h
    dsimp only at c1 c2 c3
    rw [c1, c2, c3]
end Go.Proofs.Ytjnceoohlcchnaa.Print
