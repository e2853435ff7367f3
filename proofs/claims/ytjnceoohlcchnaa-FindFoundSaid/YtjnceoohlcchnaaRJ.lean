/- FindFound: for every map and every numbers the statement answers true, and all read afterwards as before; without condition. -/
import Derived.Test.YtjnceoohlcchnaaRI
import Derived.Test.YtjnceoohlcchnaaRG
import Derived.Test.YtjnceoohlcchnaaRB
import Derived.Deep.Slices
import Derived.Deep.SlicePairs
import Derived.SizedLaws
import Derived.WalkKit
import Derived.ProofKit
import Derived.OpenShut
import Derived.ChangeOld
import Derived.Below
import Derived.Test.YtjnceoohlcchnaaRows
import Derived.ShutString
set_option linter.unusedVariables false
set_option linter.unusedSimpArgs false
/-! what a search and a route find, as the law says it -/
namespace Go.Proofs.Ytjnceoohlcchnaa.Print
open Go Go.RowKit Go.Deep Go.Proofs.YtjnceoohlcchnaaW.PrintWords Go.Proofs.YtjnceoohlcchnaaW.PrintLast Go.Proofs.YtjnceoohlcchnaaW.PrintMore
theorem post_mem (l : List S36) (p oid : Int) (h : atB (postA l p).f2 oid = true) : postA l p ∈ l := by
  unfold postA at h ⊢
  rw [List.getD_eq_getElem?_getD] at h ⊢
  cases hx : l[p.toNat]? with
  | none => rw [hx] at h; unfold atB at h; simp at h
  | some x => exact List.mem_of_getElem? hx
theorem post_mem1 (l : List S36) (p oid : Int) (h : atB (postA l p).f1 oid = true) : postA l p ∈ l := by
  unfold postA at h ⊢
  rw [List.getD_eq_getElem?_getD] at h ⊢
  cases hx : l[p.toNat]? with
  | none => rw [hx] at h; unfold atB at h; simp at h
  | some x => exact List.mem_of_getElem? hx
theorem steps_rho (l : List S36) (oid : Int) : ∀ (f : Nat) (p t : Int), (stepsR (nxH l oid) f p t).length ≤ rho l oid t + 1
  | 0, p, t => Nat.zero_le _
  | f + 1, p, t => by
    unfold stepsR
    by_cases h : (nxH l oid p t).1.2 = true
    · rw [if_pos h]
      have ih := steps_rho l oid f (nxH l oid p t).1.1 (nxH l oid p t).2
      unfold nxH at h
      by_cases h1 : atB (postA l p).f1 oid = true
      · rw [if_pos h1] at h; cases h
      rw [if_neg h1] at h
      by_cases h2 : (atB (postA l p).f2 oid && decide (t < (lookL (postA l p).f2 oid).f2)) = true
      · have e : (nxH l oid p t).2 = (lookL (postA l p).f2 oid).f2 := by
          unfold nxH
          rw [if_neg h1, if_pos h2]
        have hr := rho_lt (t := t) (post_mem l p oid (by rw [Bool.and_eq_true] at h2; exact h2.1)) (show newer oid t _ = true from h2)
        rw [← e] at hr
        rw [List.length_cons]
        omega
      · rw [if_neg h2] at h; cases h
    · rw [if_neg h]
      simp
theorem follow_len (l : List S36) (oid p : Int) : (followL l oid p).length ≤ l.length + 1 :=
  Nat.le_trans (steps_rho l oid _ p (-1)) (Nat.succ_le_succ (rho_le l oid (-1)))
theorem ask_le (place hp : Int) : ∀ (m p : Nat) (f : Bool) (s : Nat), askN place hp m p f s ≤ s + m
  | 0, _, _, s => Nat.le_refl _
  | m + 1, p, f, s => by
    unfold askN
    split
    · omega
    · split
      · have := ask_le place hp m (p + 1) f s; omega
      · have := ask_le place hp m (p + 1) ((p : Int) == hp) (s + 1); omega
theorem ask_lt (hp : Int) (q : Nat) : ∀ (m p : Nat) (f : Bool) (s : Nat), p ≤ q → q < p + m → askN (q : Int) hp m p f s < s + m
  | 0, p, _, s, h1, h2 => by omega
  | m + 1, p, f, s, h1, h2 => by
    unfold askN
    split
    · omega
    · split
      · have := ask_le (q : Int) hp m (p + 1) f s; omega
      · next h =>
        have hne : p ≠ q := fun e => h (by rw [e]; simp)
        have := ask_lt hp q m (p + 1) ((p : Int) == hp) (s + 1) (by omega) (by omega); omega
theorem ask_found (place hp : Int) (m p s : Nat) : askN place hp m p true s = s := by
  cases m with
  | zero => rfl
  | succ m => unfold askN; rw [if_pos rfl]
theorem where_mem {l : List S36} {oid : Int} {x : S36} (hx : x ∈ l) (h : atB x.f1 oid = true) : (whereL l oid).2 = true := by
  cases hb : (whereL l oid).2 with
  | true => rfl
  | false =>
    have := where_none hb x hx
    rw [h] at this; cases this
/-- what a search tells, where all is right -/
theorem search_found {l : List S36} {oid place : Int} (hc : checkF l = true) (ho : 1 ≤ oid) (hp : 0 ≤ place ∧ place < l.length) :
    (((postA l place).f0 && !((((searchF l place oid).2.2.2 == 0) == (whereL l oid).2))) && !((searchF l place oid).2.2.2 == 2)) = false ∧
    ((searchF l place oid).2.2.2 = 0 → (whereL l oid).2 = true ∧ (searchF l place oid).2.1 = (whereL l oid).1 ∧ 0 ≤ (searchF l place oid).2.2.1 ∧ (searchF l place oid).2.2.1 ≤ 2 * (l.length : Int)) := by
  have hg := given_of (l := l) (ok := decide (1 ≤ oid)) (ps := [place]) hc (decide_eq_true ho) (fun p hm => by rw [List.mem_singleton] at hm; rw [hm]; exact hp)
  unfold searchF
  rw [if_pos hg]
  by_cases h1 : (postA l place).f0 = true
  rotate_left
  · rw [if_neg h1]
    have : (postA l place).f0 = false := by simpa using h1
    rw [this]
    exact ⟨rfl, fun h => by cases h⟩
  rw [if_pos h1, h1]
  by_cases h2 : (whereL l oid).2 = true
  rotate_left
  · rw [if_neg h2]
    have : (whereL l oid).2 = false := by simpa using h2
    rw [this]
    exact ⟨rfl, fun h => by cases h⟩
  rw [if_pos h2, h2]
  by_cases h3 : ((whereL l oid).1.f1 == place) = true
  · rw [if_pos h3]
    exact ⟨rfl, fun _ => ⟨rfl, rfl, Int.le_refl _, by show (0 : Int) ≤ 2 * (l.length : Int); omega⟩⟩
  rw [if_neg h3]
  cases ht : tellsF (whereL l oid).1 (place :: followL l oid place) l with
  | none => exact ⟨rfl, fun h => by cases h⟩
  | some r =>
    refine ⟨rfl, fun _ => ⟨rfl, rfl, Int.natCast_nonneg _, ?_⟩⟩
    show ((askN place (whereL l oid).1.f1 l.length 0 (foundB l oid (followL l oid place)) (followL l oid place).length : Nat) : Int) ≤ _
    have hf := follow_len l oid place
    have hv := check_vat hc
    obtain ⟨a, x, ha, hx, _⟩ := has_here hv h2
    have hal := (List.getElem?_eq_some_iff.1 hx).1
    have hq : ((place.toNat : Nat) : Int) = place := Int.toNat_of_nonneg hp.1
    have hap : a ≠ place.toNat := fun e => h3 (by rw [ha, e, hq, beq_iff_eq])
    cases hb : foundB l oid (followL l oid place) with
    | true => rw [ask_found]; omega
    | false =>
      have := ask_lt (whereL l oid).1.f1 place.toNat l.length 0 false (followL l oid place).length (Nat.zero_le _) (by omega)
      rw [hq] at this
      omega
def phiR (l : List S36) (oid : Int) (s : Nat × Int × Bool) : Nat := rho l oid s.2.1 * l.length + (l.length - s.1)
/-- one step of a route -/
theorem step_nxR {l : List S36} {oid : Int} {i row : Nat} {t : Int} {f : Bool} (h1 : row < l.length) (h2 : atB (postA l i).f1 oid = false) :
    (messageB (postA l i) oid t = true ∧ nxR l oid i (row, t, f) = (((lookL (postA l i).f2 oid).f1, true), (0, (lookL (postA l i).f2 oid).f2, false)) ∧ rho l oid (lookL (postA l i).f2 oid).f2 < rho l oid t) ∨
    (nxR l oid i (row, t, f) = (((((i + 1) % l.length : Nat) : Int), true), (row + 1, t, false))) := by
  have hne : (atB (postA l (i : Int)).f1 oid || row == l.length) = false := by rw [h2, Bool.false_or, beq_eq_false_iff_ne]; omega
  unfold nxR
  dsimp only
  rw [hne, h2, if_neg (by simp)]
  unfold messageF
  rw [Int.toNat_natCast]
  by_cases hm : messageB (postA l (i : Int)) oid t = true
  · have hm0 := hm
    unfold messageB at hm0
    rw [Bool.and_eq_true, Bool.and_eq_true, decide_eq_true_iff] at hm0
    obtain ⟨⟨a, _⟩, c⟩ := hm0
    refine .inl ⟨hm, ?_, rho_lt (post_mem l i oid a) (show newer oid t _ = true by unfold newer; rw [a, decide_eq_true c]; rfl)⟩
    rw [if_pos hm, if_pos c]
  · right
    rw [if_neg hm, if_neg (Int.lt_irrefl _)]
theorem phi_step {r r' n row : Nat} (hr : r' < r) (h : row < n) : r' * n + (n - 0) + 1 ≤ r * n + (n - row) := by
  obtain ⟨d, rfl⟩ := Nat.exists_eq_add_of_lt hr
  have : (r' + d + 1) * n = r' * n + d * n + n := by rw [Nat.add_mul, Nat.add_mul, Nat.one_mul]
  omega
theorem go_nxR {l : List S36} {oid : Int} {p : Int} {s : Nat × Int × Bool} (hg : GoodR l p s) (h : (nxR l oid p s).1.2 = true) : ∃ i : Nat, p = (i : Int) ∧ i < l.length ∧ s.1 < l.length ∧ atB (postA l (i : Int)).f1 oid = false := by
  obtain ⟨⟨i, rfl, hi⟩, hs⟩ := hg
  refine ⟨i, rfl, hi, ?_⟩
  unfold nxR at h
  by_cases h1 : (atB (postA l i).f1 oid || s.1 == l.length) = true
  · rw [if_pos h1] at h; cases h
  · rw [Bool.or_eq_true, not_or, beq_iff_eq] at h1
    exact ⟨by omega, by simpa using h1.1⟩
theorem steps_phi {l : List S36} (hv : Vat l l.length) (oid : Int) : ∀ (f : Nat) (p : Int) (s : Nat × Int × Bool), GoodR l p s → (stepsR (nxR l oid) f p s).length ≤ phiR l oid s + 1
  | 0, p, s, _ => Nat.zero_le _
  | f + 1, p, s, hg => by
    unfold stepsR
    by_cases h : (nxR l oid p s).1.2 = true
    rotate_left
    · rw [if_neg h]; simp
    rw [if_pos h, List.length_cons]
    have hgo := good_nxR hv oid p s hg h
    have ih := steps_phi hv oid f (nxR l oid p s).1.1 (nxR l oid p s).2 hgo.1
    have hs : phiR l oid (nxR l oid p s).2 + 1 ≤ phiR l oid s := by
      clear ih hgo
      obtain ⟨i, rfl, hi, hr, ha⟩ := go_nxR hg h
      obtain ⟨row, t, b⟩ := s
      rcases step_nxR (t := t) (f := b) hr ha with ⟨_, e, hrho⟩ | e
      · rw [e]
        exact phi_step hrho hr
      · rw [e]
        show rho l oid t * l.length + (l.length - (row + 1)) + 1 ≤ rho l oid t * l.length + (l.length - row)
        have : row < l.length := hr
        omega
    omega
theorem route_len {l : List S36} (hv : Vat l l.length) (oid t : Int) {p : Nat} (hp : p < l.length) : (routeS l oid p t).length ≤ (l.length + 1) * l.length + 1 := by
  refine Nat.le_trans (steps_phi hv oid _ p (0, t, false) ⟨⟨p, rfl, hp⟩, Nat.zero_le _⟩) (Nat.succ_le_succ ?_)
  show rho l oid t * l.length + (l.length - 0) ≤ _
  have := Nat.mul_le_mul_right l.length (rho_le l oid t)
  rw [Nat.add_mul, Nat.one_mul]
  omega
/-- none of the places behind has it -/
def RowN (l : List S36) (oid : Int) (p : Int) (row : Nat) : Prop := ∀ i k : Nat, i < l.length → 1 ≤ k → k ≤ row → ((i + k : Nat) = p ∨ (i + k : Nat) = p + l.length) → atB (postA l (i : Int)).f1 oid = false
theorem row_next {l : List S36} {oid : Int} {p row : Nat} (h : RowN l oid p row) (hp : p < l.length) (ha : atB (postA l (p : Int)).f1 oid = false) : RowN l oid (((p + 1) % l.length : Nat) : Int) (row + 1) := by
  intro i k hi h1 h2 h3
  by_cases hw : p + 1 = l.length
  · rw [hw, Nat.mod_self] at h3
    by_cases hk : k = 1
    · have : i = p := by omega
      rw [this]; exact ha
    · exact h i (k - 1) hi (by omega) (by omega) (by omega)
  · rw [Nat.mod_eq_of_lt (by omega)] at h3
    by_cases hk : k = 1
    · have : i = p := by omega
      rw [this]; exact ha
    · exact h i (k - 1) hi (by omega) (by omega) (by omega)
theorem row_all {l : List S36} {oid : Int} {p : Nat} (hp : p < l.length) (h : RowN l oid p l.length) : (whereL l oid).2 = false := by
  cases hb : (whereL l oid).2 with
  | false => rfl
  | true =>
    obtain ⟨i, x, h1, h2, _⟩ := where_some hb
    have hi := (List.getElem?_eq_some_iff.1 h1).1
    have : atB (postA l (i : Int)).f1 oid = false := by
      by_cases hc : i < p
      · exact h i (p - i) hi (by omega) (by omega) (by omega)
      · exact h i (p + l.length - i) hi (by omega) (by omega) (by omega)
    rw [postA_some h1, h2] at this
    cases this
theorem steps_found {l : List S36} (hv : Vat l l.length) (oid : Int) : ∀ (f : Nat) (p : Int) (s : Nat × Int × Bool), GoodR l p s → RowN l oid p s.1 → muR l oid s < f → (stepsE (nxR l oid) f p s).2.2 = (whereL l oid).2
  | 0, p, s, _, _, h => by omega
  | f + 1, p, s, hg, hr, hm => by
    unfold stepsE
    by_cases h : (nxR l oid p s).1.2 = true
    · rw [if_pos h]
      have hgo := good_nxR hv oid p s hg h
      refine steps_found hv oid f _ _ hgo.1 ?_ (by omega)
      obtain ⟨i, rfl, hi, hr1, ha⟩ := go_nxR hg h
      obtain ⟨row, t, b⟩ := s
      rcases step_nxR (t := t) (f := b) hr1 ha with ⟨_, e, _⟩ | e
      · rw [e]
        intro j k _ h1 h2
        have : k ≤ 0 := h2
        omega
      · rw [e]
        exact row_next hr hi ha
    · rw [if_neg h]
      obtain ⟨⟨i, rfl, hi⟩, hs⟩ := hg
      unfold nxR at h ⊢
      by_cases h1 : (atB (postA l i).f1 oid || s.1 == l.length) = true
      rotate_left
      · rw [if_neg h1] at h; exact absurd rfl h
      rw [if_pos h1]
      show atB (postA l i).f1 oid = _
      by_cases h2 : atB (postA l i).f1 oid = true
      · rw [h2, where_mem (post_mem1 l i oid h2) h2]
      · rw [Bool.or_eq_true, beq_iff_eq] at h1
        have h3 : s.1 = l.length := h1.resolve_left h2
        rw [h3] at hr
        rw [row_all hi hr]
        simpa using h2
theorem route_found {l : List S36} {oid place time : Int} (hc : checkF l = true) (ho : 1 ≤ oid) (hp : 0 ≤ place ∧ place < l.length) :
    ((routeF l place oid time).2.2 ≠ 0 → time < -1 ∨ 1099511627776 < time) ∧
    ((routeF l place oid time).2.2 = 0 → (routeF l place oid time).2.1 = (whereL l oid).2 ∧ (routeF l place oid time).1.length ≤ (l.length + 1) * l.length + 1) := by
  have hv := check_vat hc
  unfold routeF
  by_cases ht : timeOk oid time = true
  · have hg := given_of (l := l) (ok := timeOk oid time) (ps := [place]) hc ht (fun p hm => by rw [List.mem_singleton] at hm; rw [hm]; exact hp)
    rw [if_pos hg]
    obtain ⟨i, rfl⟩ : ∃ i : Nat, place = (i : Int) := ⟨place.toNat, (Int.toNat_of_nonneg hp.1).symm⟩
    refine ⟨fun h => absurd rfl h, fun _ => ⟨?_, route_len hv oid time (by omega)⟩⟩
    exact steps_found hv oid _ i (0, time, false) ⟨⟨i, rfl, by omega⟩, Nat.zero_le _⟩ (fun j k _ h1 h2 => by have : k ≤ 0 := h2; omega) (Nat.lt_succ_self _)
  · have hf : timeOk oid time = false := by simpa using ht
    have hne : ¬ (givenC l (timeOk oid time) [place] = 0) := by
      unfold givenC
      rw [if_pos hc, hf, if_pos (by simp)]
      simp
    rw [if_neg hne]
    refine ⟨fun _ => ?_, fun h => absurd h hne⟩
    unfold timeOk at hf
    rw [decide_eq_true ho, Bool.true_and, Bool.and_eq_false_iff, decide_eq_false_iff_not, decide_eq_false_iff_not] at hf
    omega
end Go.Proofs.Ytjnceoohlcchnaa.Print

/-! The law of finding, walked. -/
namespace Go.Proofs.Ytjnceoohlcchnaa.Print
open Go Go.RowKit Go.Deep Go.Proofs.YtjnceoohlcchnaaW.PrintWords Go.Proofs.YtjnceoohlcchnaaW.PrintLast Go.Proofs.YtjnceoohlcchnaaW.PrintMore

theorem bound_one (n : Nat) (h1 : 1 ≤ n) (h2 : n ≤ 16) : find_Bound.f (n : Int) = some (2 * (n : Int), 0) := by
  unfold find_Bound.f
  rw [if_neg (by omega), if_neg (by omega), show wrap64 (2 * (n : Int)) = 2 * (n : Int) from by unfold wrap64; omega]
theorem where_code {l : List S36} {oid : Int} (hc : checkF l = true) (ho : 1 ≤ oid) : whereF l oid = ((whereL l oid).1, if (whereL l oid).2 = true then 0 else 3) := by
  unfold whereF
  rw [if_pos (given_of hc (decide_eq_true ho) (fun p hp => by cases hp))]
  cases hb : (whereL l oid).2 with
  | true => rfl
  | false => rw [where_not hb]; rfl
theorem exists_any (A : Option Addr) (n c : Nat) (l : List S36) (oid : Int) (w : World) (hn : n = l.length) (hr : Kd.C k36 w A l.length l) (hc : n ≤ c) (hl : Short l) :
    Calls Try.prog 15 #[.slice A n c, .int .i64 oid] w fun e w' => e = .returned (.bool ((whereF l oid).2 == 0)) ∧ Below w.heap.size w w' := by
  have HW := Aside0.mk (Where_any A n c l oid w hn hr hc hl)
  clear hn hr hc hl
  have hu := Try.underlying31
  go_enter Try.func15, Try.ntmps15
  go_wp2_with fail
  refine HW.out.mono ?_
  rintro e w1 ⟨rfl, hB⟩
  have HB1 := Aside0.mk hB
  obtain ⟨cc, hcc⟩ : ∃ c, c = (whereF l oid).2 := ⟨_, rfl⟩
  have HCC := Aside0.mk hcc
  rw [← hcc]
  simp only [hintV]
  clear hB HW hcc
  go_wp2_with fail
  go_returns
  exact ⟨by rw [← HCC.out]; rfl, below_alloc HB1.out _⟩
set_option maxRecDepth 100000 in
set_option maxHeartbeats 16000000 in
theorem found_walk (A : Option Addr) (c : Nat) (m : List S36) (place oid time : Int) (w : World) (hr : Kd.C k36 w A m.length m) (hc : m.length ≤ c) (hf : FitP m) :
    Calls Try.prog 3 #[.slice A m.length c, .int .i64 place, .int .i64 oid, .int .i64 time] w fun e w' => e = .returned (.bool true) ∧ Below w.heap.size w w' := by
  have HR := Aside0.mk hr
  have HF := Aside0.mk hf
  clear hr hf
  have hu := Try.underlying31
  go_enter Try.func3, Try.ntmps3
  go_wp2_with fail
  refine (awake_any w).mono ?_
  rintro e w1 ⟨rfl, hB⟩
  have HB1 := Aside0.mk hB
  clear hB
  go_wp2_with fail
  refine (few_any A m.length c m w1 rfl (Kd.C_below HR.out HB1.out) hc HF.out).mono ?_
  rintro e w2 ⟨rfl, hB⟩
  have HB2 := Aside0.mk (below_step HB1.out hB)
  clear hB HB1
  cases hfw : fewB m with
  | false =>
    clear hfw
    go_wp2_with fail
    go_returns
    exact ⟨rfl, HB2.out⟩
  | true =>
  have HS := Aside0.mk (few_short hfw)
  have hml : m.length ≤ 1000000 := HS.out.1
  clear hfw
  go_wp2_with fail
  refine (check_any A m.length c m w2 rfl (Kd.C_below HR.out HB2.out) hc HS.out).mono ?_
  rintro e w3 ⟨rfl, hB⟩
  have HB3 := Aside0.mk (below_step HB2.out hB)
  clear hB HB2
  unfold checkC
  by_cases hck : checkF m = true
  rotate_left
  · rw [if_neg hck]
    clear hck
    go_wp2_with fail
    go_returns
    exact ⟨rfl, HB3.out⟩
  rw [if_pos hck]
  have HCK := Aside0.mk hck
  have HM1 := Aside0.mk ((check_iff m).1 hck)
  clear hck
  by_cases hp0 : place < 0
  · have d0 : decide (place < 0) = true := decide_eq_true hp0
    clear hp0
    go_wp2_with fail
    go_returns
    exact ⟨rfl, HB3.out⟩
  have d0 : decide (place < 0) = false := decide_eq_false hp0
  by_cases hp1 : (m.length : Int) ≤ place
  · have d1 : decide ((m.length : Int) ≤ place) = true := decide_eq_true hp1
    clear hp0 hp1
    go_wp2_with fail
    go_returns
    exact ⟨rfl, HB3.out⟩
  have d1 : decide ((m.length : Int) ≤ place) = false := decide_eq_false hp1
  by_cases ho : oid < 1
  · have d2 : decide (oid < 1) = true := decide_eq_true ho
    clear hp0 hp1 ho
    go_wp2_with fail
    go_returns
    exact ⟨rfl, HB3.out⟩
  have d2 : decide (oid < 1) = false := decide_eq_false ho
  have HWC := Aside0.mk (where_code HCK.out (by omega : 1 ≤ oid))
  have HSF := Aside0.mk (search_found (l := m) (oid := oid) (place := place) HCK.out (by omega) ⟨by omega, by omega⟩)
  have HRF := Aside0.mk (route_found (l := m) (oid := oid) (place := place) (time := time) HCK.out (by omega) ⟨by omega, by omega⟩)
  obtain ⟨is, his⟩ : ∃ b, b = (whereL m oid).2 := ⟨_, rfl⟩
  obtain ⟨wh, hwh⟩ : ∃ b, b = (whereL m oid).1 := ⟨_, rfl⟩
  rw [← his, ← hwh] at HWC
  rw [← his] at HSF HRF
  rw [← hwh] at HSF
  clear his hwh
  have hpl : Aside0 (∃ i : Nat, place = (i : Int) ∧ i < m.length) := ⟨⟨place.toNat, (Int.toNat_of_nonneg (by omega)).symm, by omega⟩⟩
  clear hp0 hp1 ho
  go_wp2_with fail
  refine (exists_any A m.length c m oid w3 rfl (Kd.C_below HR.out HB3.out) hc HS.out).mono ?_
  rintro e w4 ⟨rfl, hB⟩
  have HB4 := Aside0.mk (below_step HB3.out hB)
  have hex : ((whereF m oid).2 == 0) = is := by rw [HWC.out]; cases is <;> rfl
  rw [hex]
  clear hB hex HB3 d0 d1 d2
  go_wp2_with fail
  refine (find_Bound.calls (m.length : Int) (2 * (m.length : Int)) 0 w4 (bound_one m.length HM1.out.one HM1.out.most)).mono ?_
  rintro e wx ⟨rfl, ⟨nd, rfl⟩⟩
  obtain ⟨w5, hw5⟩ : ∃ W, W = w4.drewN nd := ⟨_, rfl⟩
  rw [← hw5]
  have HB5 : Aside0 (Below w.heap.size w w5) := ⟨by rw [hw5]; exact pw_below_drewN HB4.out nd⟩
  clear hw5 HB4
  go_wp2_with fail
  refine (Search_any A m.length c m place oid w5 rfl (Kd.C_below HR.out HB5.out) hc HS.out).mono ?_
  rintro e w6 ⟨A2, c2, rfl, hc2, hC2, hB⟩
  obtain ⟨sf, hsf⟩ : ∃ s, s = searchF m place oid := ⟨_, rfl⟩
  rw [← hsf] at HSF hc2 ⊢
  clear hsf hC2
  obtain ⟨sl, hh, sent, code⟩ := sf
  dsimp only at HSF hc2 ⊢
  simp only [hintV]
  obtain ⟨w6', hw6⟩ : ∃ W, W = w6.alloc (Obj.cells #[Value.int IntKind.i64 hh.f0, Value.int IntKind.i64 hh.f1, Value.int IntKind.i64 hh.f2] 31) := ⟨_, rfl⟩
  obtain ⟨g14, hg14⟩ : ∃ g, g = w6.heap.size := ⟨_, rfl⟩
  have HB6 : Aside0 (Below w.heap.size w w6') := ⟨by rw [hw6]; exact below_alloc (below_step HB5.out hB) _⟩
  have HX6 : Aside0 (w6'.heap[g14]? = some (.cells #[.int .i64 hh.f0, .int .i64 hh.f1, .int .i64 hh.f2] 31 (0, 0))) := ⟨by rw [hw6, hg14]; exact heap_alloc_new _ _⟩
  clear hB HB5
  go_upto_region 7 with fail
  rw [← hw6, ← hg14]
  clear hw6 hg14
  obtain ⟨i, hpi, hi⟩ := hpl.out
  subst hpi
  clear hpl
  go_cut [82] (fun u82 wx => u82 = .bool false ∧ wx = w6')
  case first =>
    obtain ⟨ad, x, A1, c1, A2, c2, rfl, hx, p0, _, _, _, _, _, _⟩ := post_at (Kd.C_below HR.out HB6.out) i hi
    have hu36 := Try.underlying36
    have hd : decide (i < m.length) = true := decide_eq_true hi
    have hs1 := HSF.out.1
    rw [postA_some hx] at hs1
    have HS1 := Aside0.mk hs1
    clear hx hs1
    obtain ⟨up, hup⟩ : ∃ u, u = x.f0 := ⟨_, rfl⟩
    rw [← hup] at HS1 p0
    clear hup
    cases up with
    | false =>
      go_wp2_with fail
      go_meet
      case rel => exact ⟨rfl, rfl⟩
    | true =>
      by_cases hk : code = 2
      · subst hk
        cases is
        all_goals
          go_wp2_with fail
          go_meet
          case rel => exact ⟨rfl, rfl⟩
      · have hk2 : (code == 2) = false := by rw [beq_eq_false_iff_ne]; exact hk
        have e0 : (code == 0) = is := by
          have h := HS1.out
          rw [hk2] at h
          obtain ⟨q, hq⟩ : ∃ q, q = (code == 0) := ⟨_, rfl⟩
          rw [← hq] at h ⊢
          revert h
          clear hq
          cases q <;> cases is <;> decide
        have hk3 : (code != 2) = true := by rw [bne_iff_ne]; exact hk
        clear hk HS1 HSF HRF HWC
        cases is
        all_goals
          go_wp2_with fail
          go_meet
          case rel => exact ⟨rfl, rfl⟩
  case rest =>
    obtain ⟨rfl, hwc⟩ := hcut
    have hwc' := hwc.symm
    subst hwc'
    clear hwc
    go_upto_if 84 with fail
    go_cut [17, 18] (fun _ _ wx => Aside0 (Below w.heap.size w wx))
    case first =>
      by_cases hk : code = 0
      rotate_left
      · have hk2 : (code == 0) = false := by rw [beq_eq_false_iff_ne]; exact hk
        clear hk HSF HRF HWC
        go_wp2_with fail
        go_meet
        case rel => exact HB6
      obtain ⟨e1, e2, e3, e4⟩ := HSF.out.2 hk
      subst hk
      subst e1
      subst e2
      have k1 : decide (2 * (m.length : Int) < sent) = false := decide_eq_false (by omega)
      have k2 : decide (sent < 0) = false := decide_eq_false (by omega)
      clear e3 e4 HSF HRF
      go_wp2_with fail
      refine (Where_any A m.length c m oid w6' rfl (Kd.C_below HR.out HB6.out) hc HS.out).mono ?_
      rintro e w7 ⟨rfl, hB⟩
      rw [HWC.out]
      dsimp only
      simp only [hintV, if_true]
      obtain ⟨w7', hw7⟩ : ∃ W, W = w7.alloc (Obj.cells #[Value.int IntKind.i64 hh.f0, Value.int IntKind.i64 hh.f1, Value.int IntKind.i64 hh.f2] 31) := ⟨_, rfl⟩
      obtain ⟨g17, hg17⟩ : ∃ g, g = w7.heap.size := ⟨_, rfl⟩
      have HB7 : Aside0 (Below w.heap.size w w7') := ⟨by rw [hw7]; exact below_alloc (below_step HB6.out hB) _⟩
      have HX7 : Aside0 (w7'.heap[g14]? = some (.cells #[.int .i64 hh.f0, .int .i64 hh.f1, .int .i64 hh.f2] 31 (0, 0))) := ⟨by rw [hw7]; exact blk_alloc (blk_below HX6.out hB) _⟩
      have HY7 : Aside0 (w7'.heap[g17]? = some (.cells #[.int .i64 hh.f0, .int .i64 hh.f1, .int .i64 hh.f2] 31 (0, 0))) := ⟨by rw [hw7, hg17]; exact heap_alloc_new _ _⟩
      have heq : ∀ W, (Op.equal 31 (.agg #[.int .i64 hh.f0, .int .i64 hh.f1, .int .i64 hh.f2]) (.agg #[.int .i64 hh.f0, .int .i64 hh.f1, .int .i64 hh.f2])).run Try.prog W = .ok true W := fun W => by rw [eq_hint hh hh W]; simp
      clear hB HB6 HX6 HWC
      go_upto_region 11 with fail
      rw [← hw7, ← hg17]
      clear hw7 hg17
      obtain ⟨x0, x1, x2, _, _, _⟩ := blk3 HX7.out
      obtain ⟨y0, y1, y2, _, _, _⟩ := blk3 HY7.out
      go_wp2_with fail
      go_meet
      case rel => exact HB7
    case rest =>
      have HB7 := hcut
      clear HX6 HB6
      go_wp2_with fail
      refine (Route_any A m.length c m (i : Int) oid time wc rfl (Kd.C_below HR.out HB7.out) hc HS.out).mono ?_
      rintro e w8 ⟨v, rfl, hR, hB⟩
      have HB8 := Aside0.mk (below_step HB7.out hB)
      obtain ⟨rf, hrf⟩ : ∃ s, s = routeF m (i : Int) oid time := ⟨_, rfl⟩
      rw [← hrf] at HRF hR ⊢
      obtain ⟨rl, fnd, rc⟩ := rf
      obtain ⟨U, cu, rfl⟩ := Kd.R_slice hR
      dsimp only at HRF ⊢
      clear hrf hR hB
      by_cases hk : rc = 0
      · obtain ⟨e1, e2⟩ := HRF.out.2 hk
        subst hk
        subst e1
        have hm16 : m.length ≤ 16 := by have := HM1.out.most; omega
        have hn2 : (m.length + 1) * m.length ≤ 272 := Nat.mul_le_mul (by omega : m.length + 1 ≤ 17) hm16
        have hee : (fnd == fnd) = true := by cases fnd <;> rfl
        have hcast : ((m.length : Int) + 1) * (m.length : Int) = (((m.length + 1) * m.length : Nat) : Int) := by rw [Int.natCast_mul, Int.natCast_add]; rfl
        have hq : Aside0 (decide ((rl.length : Int) ≤ wrap64 (wrap64 (((m.length : Int) + 1) * (m.length : Int)) + 1)) = true) := ⟨by
          rw [hcast]
          generalize (m.length + 1) * m.length = K at e2 hn2 ⊢
          rw [show wrap64 (K : Int) = K from by unfold wrap64; omega, show wrap64 ((K : Int) + 1) = K + 1 from by unfold wrap64; omega]
          exact decide_eq_true (by omega)⟩
        clear hcast hn2 e2
        go_wp2_with fail
        rw [hq.out]
        go_returns
        exact ⟨rfl, HB8.out⟩
      · have hk2 : (rc != 0) = true := by rw [bne_iff_ne]; exact hk
        have ht := HRF.out.1 hk
        by_cases ht1 : time < -1
        · have q1 : decide (time < -1) = true := decide_eq_true ht1
          clear hk ht ht1
          go_wp2_with fail
          go_returns
          exact ⟨rfl, HB8.out⟩
        · have q1 : decide (time < -1) = false := decide_eq_false ht1
          have q2 : decide (1099511627776 < time) = true := decide_eq_true (by omega)
          clear hk ht ht1
          go_wp2_with fail
          go_returns
          exact ⟨rfl, HB8.out⟩
end Go.Proofs.Ytjnceoohlcchnaa.Print

/-! A map, or hints, handed in: what the row says of it, as a list. -/
namespace Go.Proofs.Ytjnceoohlcchnaa.Print
open Go Go.ChangeShapes Go.WideShapes Go.ChangeAt Go.RowKit Go.Deep Go.Proofs.YtjnceoohlcchnaaW.PrintWords Go.Proofs.YtjnceoohlcchnaaW.PrintLast Go.Proofs.YtjnceoohlcchnaaW.PrintMore

theorem weights_all {H : Type} {P : Program} {e : TypeId} : ∀ {l : List (DataW H)} {d : DataW H}, d ∈ l → ∀ n ∈ d.weights P e, n ∈ DataW.weightsAll P e l
  | [], _, h, _, _ => by cases h
  | a :: l, d, h, n, hn => by
    rw [DataW.weightsAll, List.mem_append]
    rcases List.mem_cons.1 h with rfl | h
    · exact .inl hn
    · exact .inr (weights_all h n hn)
section
variable {H : Type} {enc : TypeId × Value → H} {W : World} {held : Bool}
set_option maxRecDepth 100000 in
/-- a row of structs of three fields of one cell each -/
theorem open_triples {t e : TypeId} {f0 f1 f2 : Field} {fuel : Nat} {A : Option Addr} {len cap : Nat} {d : DataW H} {ps : List MemPlace} (ht : Try.prog.underlying t = some (.slice e)) (he : Try.prog.underlying e = some (.struct #[f0, f1, f2]))
    (ce : Try.prog.cellsOf e = 3) (o0 : f0.offset = 0) (o1 : f1.offset = 1) (o2 : f2.offset = 2) (c0 : Try.prog.cellsOf f0.type = 1) (c1 : Try.prog.cellsOf f1.type = 1) (c2 : Try.prog.cellsOf f2.type = 1)
    (h : DataW.trod enc Try.prog W 0 (fun _ => true) held fuel t [.slice A len cap] = some (d, ps)) :
    (A = none ∧ len = 0 ∧ cap = 0) ∨ ∃ (a : Addr) (D : Nat → DataW H) (rest : List (DataW H)), A = some a ∧ len ≤ cap ∧ cap ≤ maxLen ∧ d = .slice ((List.range len).map D) rest ∧
      ∀ i, i < len → ∃ (k : Nat) (v0 v1 v2 : Value) (y0 y1 y2 : DataW H × List MemPlace), W.cell? (a.add (i * 3)) = some v0 ∧ W.cell? (a.add (i * 3 + 1)) = some v1 ∧ W.cell? (a.add (i * 3 + 2)) = some v2 ∧ D i = .agg [y0.1, y1.1, y2.1] ∧
        DataW.trod enc Try.prog W 0 (fun _ => true) held k f0.type [v0] = some y0 ∧ DataW.trod enc Try.prog W 0 (fun _ => true) held k f1.type [v1] = some y1 ∧ DataW.trod enc Try.prog W 0 (fun _ => true) held k f2.type [v2] = some y2 := by
  rcases open_slice ht h with ⟨hcs, _⟩ | ⟨a, l', c', m, n, D, Pl, hcs, _, hl, hm, hmm, hx, hel⟩
  · cases hcs
    exact .inl ⟨rfl, rfl, rfl⟩
  · cases hcs
    simp only [if_true] at hmm
    refine .inr ⟨a, D, _, rfl, hl, hm, (Prod.mk.inj hx).1, fun i hi => ?_⟩
    obtain ⟨cs', q1, q2⟩ := hel i (by omega)
    rw [ce] at q1
    obtain ⟨_, hlen, hcell⟩ := World.cells?_some q1
    obtain ⟨xs, k, _, hxy, _, hxl, hf⟩ := DataW.trod_struct he q2
    match xs, hxl, cs', hlen with
    | [y0, y1, y2], _, [v0, v1, v2], _ =>
      have g0 := hf 0 f0 rfl
      have g1 := hf 1 f1 rfl
      have g2 := hf 2 f2 rfl
      simp [o0, o1, o2, c0, c1, c2] at g0 g1 g2
      have e0 := hcell 0 (by omega)
      have e1 := hcell 1 (by omega)
      have e2 := hcell 2 (by omega)
      rw [Go.Deep.add_add] at e0 e1 e2
      simp only [Prod.mk.injEq] at hxy
      exact ⟨k, v0, v1, v2, y0, y1, y2, by simpa using e0, by simpa using e1, by simpa using e2, by simpa using hxy.1, g0, g1, g2⟩
set_option maxRecDepth 100000 in
theorem lift_hints {fuel : Nat} {a : Option Addr} {len cap : Nat} {d : DataW H} {ps : List MemPlace} (h : DataW.trod enc Try.prog W 0 (fun _ => true) held fuel 34 [.slice a len cap] = some (d, ps)) (hz : ∀ n ∈ d.weights Try.prog 34, n ≤ reachBytes) :
    ∃ l : List S31, l.length = len ∧ len ≤ cap ∧ Kd.C k31 W a len l ∧ len ≤ 140737488355328 := by
  rcases open_triples Try.underlying34 Try.underlying31 (by kernel_rfl) rfl rfl rfl (by kernel_rfl) (by kernel_rfl) (by kernel_rfl) h with ⟨rfl, rfl, rfl⟩ | ⟨ad, D, rest, rfl, hl, hm, rfl, hel⟩
  · exact ⟨[], rfl, Nat.le_refl _, Kd.C_nil _ _, by simp⟩
  · rw [DataW.weights, Try.underlying34] at hz
    have hsz := hz _ (List.mem_cons_self ..)
    rw [show Try.prog.bytesOf 31 = 24 from by kernel_rfl] at hsz
    simp at hsz
    have each : ∀ i, i < len → ∃ y : S31, W.cell? (ad.add (i * 3)) = some (.int .i64 y.f0) ∧ W.cell? (ad.add (i * 3 + 1)) = some (.int .i64 y.f1) ∧ W.cell? (ad.add (i * 3 + 2)) = some (.int .i64 y.f2) := by
      intro i hi
      obtain ⟨k, v0, v1, v2, y0, y1, y2, q0, q1, q2, _, g0, g1, g2⟩ := hel i hi
      obtain ⟨z0, e0, _, _⟩ := DataW.trod_int Try.underlying3 g0
      obtain ⟨z1, e1, _, _⟩ := DataW.trod_int Try.underlying3 g1
      obtain ⟨z2, e2, _, _⟩ := DataW.trod_int Try.underlying3 g2
      simp at e0 e1 e2
      subst e0 e1 e2
      exact ⟨⟨z0, z1, z2⟩, q0, q1, q2⟩
    haveI : Inhabited S31 := ⟨⟨0, 0, 0⟩⟩
    obtain ⟨y, hy⟩ := choose_lt each
    refine ⟨(List.range len).map y, by simp, hl, ⟨by simp, by unfold maxLen at hm; omega, fun _ => ⟨ad, rfl, fun j p hj => ?_⟩⟩, by unfold reachBytes at hsz; omega⟩
    rw [List.getElem?_map] at hj
    obtain ⟨i, hi, rfl⟩ := Option.map_eq_some_iff.1 hj
    obtain ⟨hjl, hji⟩ := List.getElem?_eq_some_iff.1 hi
    simp at hjl hji
    subst hji
    obtain ⟨e0, e1, e2⟩ := hy j hjl
    refine ⟨_, rfl, k31_mk W (y j), fun i u hu => ?_⟩
    match i, hu with
    | 0, hu => cases hu; exact e0
    | 1, hu => cases hu; exact e1
    | 2, hu => cases hu; exact e2
set_option maxRecDepth 100000 in
theorem lift_posts {a : Option Addr} {len cap : Nat} {d : DataW H} {ps : List MemPlace} (h : DataW.Trod enc Try.prog W 0 (fun _ => true) held 22 (.slice a len cap) d ps) (hz : ∀ n ∈ d.weights Try.prog 22, n ≤ reachBytes) :
    ∃ l : List S36, l.length = len ∧ len ≤ cap ∧ Kd.C k36 W a len l ∧ len ≤ 140737488355328 ∧ ∀ x ∈ l, x.f1.length ≤ 140737488355328 ∧ x.f2.length ≤ 140737488355328 := by
  obtain ⟨fuel, hf⟩ := h
  rcases open_triples Try.underlying22 Try.underlying36 (by kernel_rfl) rfl rfl rfl (by kernel_rfl) (by kernel_rfl) (by kernel_rfl) (show DataW.trod enc Try.prog W 0 (fun _ => true) held fuel 22 [.slice a len cap] = some (d, ps) from by simpa [Value.cells] using hf) with ⟨rfl, rfl, rfl⟩ | ⟨ad, D, rest, rfl, hl, hm, rfl, hel⟩
  · exact ⟨[], rfl, Nat.le_refl _, Kd.C_nil _ _, by simp, by simp⟩
  · rw [DataW.weights, Try.underlying22] at hz
    have hsz := hz _ (List.mem_cons_self ..)
    rw [show Try.prog.bytesOf 36 = 56 from by kernel_rfl] at hsz
    simp at hsz
    have each : ∀ i, i < len → ∃ y : S36 × (Option Addr × Nat) × (Option Addr × Nat), W.cell? (ad.add (i * 3)) = some (.bool y.1.f0) ∧ W.cell? (ad.add (i * 3 + 1)) = some (.slice y.2.1.1 y.1.f1.length y.2.1.2) ∧ W.cell? (ad.add (i * 3 + 2)) = some (.slice y.2.2.1 y.1.f2.length y.2.2.2) ∧
        y.1.f1.length ≤ y.2.1.2 ∧ Kd.C k31 W y.2.1.1 y.1.f1.length y.1.f1 ∧ y.1.f2.length ≤ y.2.2.2 ∧ Kd.C k31 W y.2.2.1 y.1.f2.length y.1.f2 ∧ y.1.f1.length ≤ 140737488355328 ∧ y.1.f2.length ≤ 140737488355328 := by
      intro i hi
      obtain ⟨k, v0, v1, v2, y0, y1, y2, q0, q1, q2, hD, g0, g1, g2⟩ := hel i hi
      obtain ⟨b, e0, _⟩ := DataW.trod_bool Try.underlying4 g0
      simp at e0
      subst e0
      have hin : ∀ n ∈ (D i).weights Try.prog 36, n ≤ reachBytes := fun n hn => hz n (List.mem_cons_of_mem _ (List.mem_append_left _ (weights_all (d := D i) (List.mem_map.2 ⟨i, List.mem_range.2 hi, rfl⟩) n hn)))
      rw [hD, DataW.weights, Try.underlying36] at hin
      have hin2 : ∀ n ∈ DataW.weightsEach Try.prog [4, 34, 34] [y0.1, y1.1, y2.1], n ≤ reachBytes := hin
      have hw1 : ∀ n ∈ y1.1.weights Try.prog 34, n ≤ reachBytes := fun n hn => hin2 n (by simp [DataW.weightsEach, hn])
      have hw2 : ∀ n ∈ y2.1.weights Try.prog 34, n ≤ reachBytes := fun n hn => hin2 n (by simp [DataW.weightsEach, hn])
      have s1 : ∃ A n c, v1 = .slice A n c := by
        rcases open_slice Try.underlying34 g1 with ⟨hcs, _⟩ | ⟨a, l', c', _, _, _, _, hcs, _⟩
        · cases hcs; exact ⟨_, _, _, rfl⟩
        · cases hcs; exact ⟨_, _, _, rfl⟩
      have s2 : ∃ A n c, v2 = .slice A n c := by
        rcases open_slice Try.underlying34 g2 with ⟨hcs, _⟩ | ⟨a, l', c', _, _, _, _, hcs, _⟩
        · cases hcs; exact ⟨_, _, _, rfl⟩
        · cases hcs; exact ⟨_, _, _, rfl⟩
      obtain ⟨A1, n1, c1, rfl⟩ := s1
      obtain ⟨A2, n2, c2, rfl⟩ := s2
      obtain ⟨l1, z1, b1, C1, w1⟩ := lift_hints (d := y1.1) (ps := y1.2) g1 hw1
      obtain ⟨l2, z2, b2, C2, w2⟩ := lift_hints (d := y2.1) (ps := y2.2) g2 hw2
      subst z1 z2
      exact ⟨(⟨b, l1, l2⟩, (A1, c1), (A2, c2)), q0, q1, q2, b1, C1, b2, C2, w1, w2⟩
    haveI : Inhabited (S36 × (Option Addr × Nat) × (Option Addr × Nat)) := ⟨(⟨false, [], []⟩, (none, 0), (none, 0))⟩
    obtain ⟨y, hy⟩ := choose_lt each
    refine ⟨(List.range len).map fun i => (y i).1, by simp, hl, ⟨by simp, by unfold maxLen at hm; omega, fun _ => ⟨ad, rfl, fun j p hj => ?_⟩⟩, by unfold reachBytes at hsz; omega, fun x hx => ?_⟩
    · rw [List.getElem?_map] at hj
      obtain ⟨i, hi, rfl⟩ := Option.map_eq_some_iff.1 hj
      obtain ⟨hjl, hji⟩ := List.getElem?_eq_some_iff.1 hi
      simp at hjl hji
      subst hji
      obtain ⟨e0, e1, e2, b1, C1, b2, C2, _, _⟩ := hy j hjl
      refine ⟨_, rfl, k36_mk W (y j).1 b1 C1 b2 C2, fun i u hu => ?_⟩
      match i, hu with
      | 0, hu => cases hu; exact e0
      | 1, hu => cases hu; exact e1
      | 2, hu => cases hu; exact e2
    · obtain ⟨i, hi, rfl⟩ := List.mem_map.1 hx
      have := hy i (List.mem_range.1 hi)
      exact this.2.2.2.2.2.2.2
end
end Go.Proofs.Ytjnceoohlcchnaa.Print

namespace Go.Proofs.Ytjnceoohlcchnaa.findFound
open Go Go.ChangeShapes Go.WideShapes Go.ChangeAt Go.RowKit Go.Proofs.Ytjnceoohlcchnaa.Print
open Go.Proofs.YtjnceoohlcchnaaW.PrintWords
theorem own : ownKnob Try.prog.godebug = none := by kernel_rfl
theorem laidOut : laidOutB Try.prog = true := by kernel_rfl

theorem small {H : Type} {ts : List TypeId} {ds : List (DataW H)} (hsz : (DataW.weightsEach Try.prog ts ds).all (· ≤ reachBytes) = true) {j : Nat} {t : TypeId} {d : DataW H} (ht : ts[j]? = some t) (hd : ds[j]? = some d) : ∀ n ∈ d.weights Try.prog t, n ≤ reachBytes := by
  intro n hn
  have := List.all_eq_true.1 hsz _ (DataW.weights_mem_each ht hd n hn)
  simpa using this


set_option maxRecDepth 100000 in
theorem lifted (os : Os) (started : os.Started) (H : Type) (enc : TypeId × Value → H) :
    ReturnsInHanded {} Try.checked os 3 .any (Rows.findFoundSpec.pre6 enc Try.prog Try.f3 Rows.findFoundRow.domain false) (Rows.findFoundSpec.post enc Try.prog Try.f3 false true false false) := by
  refine returnsInHanded_of_change_sized (C := Try.checked) own started (by kernel_rfl) Try.func3
    (ChangeSpec.witness6 (enc := enc) (C := Try.checked) false ⟨#[], #[.slice none 0 0, .int .i64 0, .int .i64 0, .int .i64 0], []⟩ 8 (by kernel_rfl) (by kernel_rfl) (by kernel_rfl) (by kernel_rfl)) ?_
  intro W base args ds gs before hval0 hW hcnd hsz0 _
  have hsz : (DataW.weightsEach Try.prog (Try.f3.params.toList ++ Rows.findFoundSpec.plain.varTypes Try.prog) (ds ++ gs)).all (· ≤ reachBytes) = true := hsz0
  have hval : ∀ (j : Nat) t v, Try.f3.params[j]? = some t → args[j]? = some v → Value.okWide Try.prog W .any base t v := hval0
  have hW' := hW
  obtain ⟨p, q, hA0, hV, rfl, hfz, hnd⟩ := hW
  have hA : DataW.TrodAll enc Try.prog W 0 (fun _ => true) true Try.f3.params.toList args.toList ds p := hA0
  rw [Try.params3] at hA hval hsz
  obtain ⟨v0, vs0, d0, ds0, p0, q0, hargs, rfl, rfl, h0, r0⟩ := trodAll_cons hA
  obtain ⟨v1, vs1, d1, ds1, p1, q1, rfl, rfl, rfl, h1, r1⟩ := trodAll_cons r0
  obtain ⟨v2, vs2, d2, ds2, p2, q2, rfl, rfl, rfl, h2, r2⟩ := trodAll_cons r1
  obtain ⟨v3, vs3, d3, ds3, p3, q3, rfl, rfl, rfl, h3, r3⟩ := trodAll_cons r2
  obtain ⟨rfl, rfl, rfl⟩ := trodAll_nil r3
  obtain rfl : args = #[v0, v1, v2, v3] := by cases args; simp_all
  obtain ⟨rfl, rfl⟩ := trodVars_none hV
  obtain ⟨a0, len0, cap0, rfl⟩ := okWide_slice Try.underlying22 (hval 0 22 v0 rfl rfl)
  obtain ⟨a1, rfl, rfl, rfl, w1⟩ := open_int Try.underlying3 (hval 1 3 v1 rfl rfl) h1
  obtain ⟨a2, rfl, rfl, rfl, w2⟩ := open_int Try.underlying3 (hval 2 3 v2 rfl rfl) h2
  obtain ⟨a3, rfl, rfl, rfl, w3⟩ := open_int Try.underlying3 (hval 3 3 v3 rfl rfl) h3
  have k0 := h0
  have lt0 : ∀ x ∈ p0, x.block < W.heap.size := by obtain ⟨m, hm⟩ := k0; exact DataW.trod_lt m _ _ _ hm
  obtain ⟨l0, e0, hc0, hr0, hz0, hw0⟩ := lift_posts h0 (small hsz (j := 0) rfl rfl)
  subst e0
  clear hA0 hval0 hsz0 hsz
  refine (found_walk a0 cap0 l0 a1 a2 a3 W hr0 hc0 hw0).mono fun e W' ⟨he, bel⟩ => ?_
  subst he
  exact ⟨_, rfl, _, _, _, [], _, [], hW', trodAll_mk1 (shut_bool Try.underlying4 _), (trodAll_cons_mk (Below.trod laidOut (by kernel_rfl) (of_decide_eq_true (by kernel_rfl)) k0 bel lt0) (trodAll_cons_mk (shut_int Try.underlying3 w1) (trodAll_cons_mk (shut_int Try.underlying3 w2) (trodAll_cons_mk (shut_int Try.underlying3 w3) trodAll_mk0)))), rfl, bel.frame _, fun h => by cases h⟩
theorem over : Rows.findFoundRow.holds Try.pinned (OpenSpec.ofChange Rows.findFoundSpec) :=
  OpenClaim.holds_of_wide 3 Try.f3 rfl rfl rfl rfl rfl rfl rfl ⟨rfl, rfl, rfl, rfl, rfl⟩ rfl rfl rfl rfl rfl (by kernel_rfl) Try.func3 (by kernel_rfl)
    (of_decide_eq_true (by kernel_rfl)) (by unfold Func.isWrapper; first | (rw [if_pos (by decide +kernel)]; kernel_rfl) | (rw [if_neg (by decide +kernel)]; exact ⟨rfl, rfl⟩))
    (fun os started H enc _ => lifted os started H enc)
theorem proved : Rows.FindFoundSaid := over
#print axioms proved
end Go.Proofs.Ytjnceoohlcchnaa.findFound
namespace Go.Proofs.Ytjnceoohlcchnaa
/-- The row, under a short name, for the claim. -/
theorem findFound_holds : Rows.FindFoundSaid := findFound.proved
end Go.Proofs.Ytjnceoohlcchnaa
