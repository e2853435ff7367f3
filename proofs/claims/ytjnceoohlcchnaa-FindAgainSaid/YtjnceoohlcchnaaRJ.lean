/- FindAgain: for every map and every numbers the statement answers true, and all read afterwards as before; without condition. -/
import Derived.Test.YtjnceoohlcchnaaRI
import Derived.Test.YtjnceoohlcchnaaRG
import Derived.Test.YtjnceoohlcchnaaRC
import Derived.Test.YtjnceoohlcchnaaRB
import Derived.Deep.Slices
import Derived.Deep.SlicePairs
import Derived.SizedLaws
import Derived.WalkKit
import Derived.ProofKit
import Derived.OpenShut
import Derived.ChangeOld
import Derived.Below
import Derived.Test.YtjnceoohlcchnaaRows
import Derived.ShutString
set_option linter.unusedVariables false
set_option linter.unusedSimpArgs false
/-! what a search and a route find, as the law says it -/
namespace Go.Proofs.Ytjnceoohlcchnaa.Print
open Go Go.RowKit Go.Deep Go.Proofs.YtjnceoohlcchnaaW.PrintWords Go.Proofs.YtjnceoohlcchnaaW.PrintLast Go.Proofs.YtjnceoohlcchnaaW.PrintMore
theorem post_mem (l : List S36) (p oid : Int) (h : atB (postA l p).f2 oid = true) : postA l p ∈ l := by
  unfold postA at h ⊢
  rw [List.getD_eq_getElem?_getD] at h ⊢
  cases hx : l[p.toNat]? with
  | none => rw [hx] at h; unfold atB at h; simp at h
  | some x => exact List.mem_of_getElem? hx
theorem post_mem1 (l : List S36) (p oid : Int) (h : atB (postA l p).f1 oid = true) : postA l p ∈ l := by
  unfold postA at h ⊢
  rw [List.getD_eq_getElem?_getD] at h ⊢
  cases hx : l[p.toNat]? with
  | none => rw [hx] at h; unfold atB at h; simp at h
  | some x => exact List.mem_of_getElem? hx
theorem steps_rho (l : List S36) (oid : Int) : ∀ (f : Nat) (p t : Int), (stepsR (nxH l oid) f p t).length ≤ rho l oid t + 1
  | 0, p, t => Nat.zero_le _
  | f + 1, p, t => by
    unfold stepsR
    by_cases h : (nxH l oid p t).1.2 = true
    · rw [if_pos h]
      have ih := steps_rho l oid f (nxH l oid p t).1.1 (nxH l oid p t).2
      unfold nxH at h
      by_cases h1 : atB (postA l p).f1 oid = true
      · rw [if_pos h1] at h; cases h
      rw [if_neg h1] at h
      by_cases h2 : (atB (postA l p).f2 oid && decide (t < (lookL (postA l p).f2 oid).f2)) = true
      · have e : (nxH l oid p t).2 = (lookL (postA l p).f2 oid).f2 := by
          unfold nxH
          rw [if_neg h1, if_pos h2]
        have hr := rho_lt (t := t) (post_mem l p oid (by rw [Bool.and_eq_true] at h2; exact h2.1)) (show newer oid t _ = true from h2)
        rw [← e] at hr
        rw [List.length_cons]
        omega
      · rw [if_neg h2] at h; cases h
    · rw [if_neg h]
      simp
theorem follow_len (l : List S36) (oid p : Int) : (followL l oid p).length ≤ l.length + 1 :=
  Nat.le_trans (steps_rho l oid _ p (-1)) (Nat.succ_le_succ (rho_le l oid (-1)))
theorem ask_le (place hp : Int) : ∀ (m p : Nat) (f : Bool) (s : Nat), askN place hp m p f s ≤ s + m
  | 0, _, _, s => Nat.le_refl _
  | m + 1, p, f, s => by
    unfold askN
    split
    · omega
    · split
      · have := ask_le place hp m (p + 1) f s; omega
      · have := ask_le place hp m (p + 1) ((p : Int) == hp) (s + 1); omega
theorem ask_lt (hp : Int) (q : Nat) : ∀ (m p : Nat) (f : Bool) (s : Nat), p ≤ q → q < p + m → askN (q : Int) hp m p f s < s + m
  | 0, p, _, s, h1, h2 => by omega
  | m + 1, p, f, s, h1, h2 => by
    unfold askN
    split
    · omega
    · split
      · have := ask_le (q : Int) hp m (p + 1) f s; omega
      · next h =>
        have hne : p ≠ q := fun e => h (by rw [e]; simp)
        have := ask_lt hp q m (p + 1) ((p : Int) == hp) (s + 1) (by omega) (by omega); omega
theorem ask_found (place hp : Int) (m p s : Nat) : askN place hp m p true s = s := by
  cases m with
  | zero => rfl
  | succ m => unfold askN; rw [if_pos rfl]
theorem where_mem {l : List S36} {oid : Int} {x : S36} (hx : x ∈ l) (h : atB x.f1 oid = true) : (whereL l oid).2 = true := by
  cases hb : (whereL l oid).2 with
  | true => rfl
  | false =>
    have := where_none hb x hx
    rw [h] at this; cases this
/-- what a search tells, where all is right -/
theorem search_found {l : List S36} {oid place : Int} (hc : checkF l = true) (ho : 1 ≤ oid) (hp : 0 ≤ place ∧ place < l.length) :
    (((postA l place).f0 && !((((searchF l place oid).2.2.2 == 0) == (whereL l oid).2))) && !((searchF l place oid).2.2.2 == 2)) = false ∧
    ((searchF l place oid).2.2.2 = 0 → (whereL l oid).2 = true ∧ (searchF l place oid).2.1 = (whereL l oid).1 ∧ 0 ≤ (searchF l place oid).2.2.1 ∧ (searchF l place oid).2.2.1 ≤ 2 * (l.length : Int)) := by
  have hg := given_of (l := l) (ok := decide (1 ≤ oid)) (ps := [place]) hc (decide_eq_true ho) (fun p hm => by rw [List.mem_singleton] at hm; rw [hm]; exact hp)
  unfold searchF
  rw [if_pos hg]
  by_cases h1 : (postA l place).f0 = true
  rotate_left
  · rw [if_neg h1]
    have : (postA l place).f0 = false := by simpa using h1
    rw [this]
    exact ⟨rfl, fun h => by cases h⟩
  rw [if_pos h1, h1]
  by_cases h2 : (whereL l oid).2 = true
  rotate_left
  · rw [if_neg h2]
    have : (whereL l oid).2 = false := by simpa using h2
    rw [this]
    exact ⟨rfl, fun h => by cases h⟩
  rw [if_pos h2, h2]
  by_cases h3 : ((whereL l oid).1.f1 == place) = true
  · rw [if_pos h3]
    exact ⟨rfl, fun _ => ⟨rfl, rfl, Int.le_refl _, by show (0 : Int) ≤ 2 * (l.length : Int); omega⟩⟩
  rw [if_neg h3]
  cases ht : tellsF (whereL l oid).1 (place :: followL l oid place) l with
  | none => exact ⟨rfl, fun h => by cases h⟩
  | some r =>
    refine ⟨rfl, fun _ => ⟨rfl, rfl, Int.natCast_nonneg _, ?_⟩⟩
    show ((askN place (whereL l oid).1.f1 l.length 0 (foundB l oid (followL l oid place)) (followL l oid place).length : Nat) : Int) ≤ _
    have hf := follow_len l oid place
    have hv := check_vat hc
    obtain ⟨a, x, ha, hx, _⟩ := has_here hv h2
    have hal := (List.getElem?_eq_some_iff.1 hx).1
    have hq : ((place.toNat : Nat) : Int) = place := Int.toNat_of_nonneg hp.1
    have hap : a ≠ place.toNat := fun e => h3 (by rw [ha, e, hq, beq_iff_eq])
    cases hb : foundB l oid (followL l oid place) with
    | true => rw [ask_found]; omega
    | false =>
      have := ask_lt (whereL l oid).1.f1 place.toNat l.length 0 false (followL l oid place).length (Nat.zero_le _) (by omega)
      rw [hq] at this
      omega
def phiR (l : List S36) (oid : Int) (s : Nat × Int × Bool) : Nat := rho l oid s.2.1 * l.length + (l.length - s.1)
/-- one step of a route -/
theorem step_nxR {l : List S36} {oid : Int} {i row : Nat} {t : Int} {f : Bool} (h1 : row < l.length) (h2 : atB (postA l i).f1 oid = false) :
    (messageB (postA l i) oid t = true ∧ nxR l oid i (row, t, f) = (((lookL (postA l i).f2 oid).f1, true), (0, (lookL (postA l i).f2 oid).f2, false)) ∧ rho l oid (lookL (postA l i).f2 oid).f2 < rho l oid t) ∨
    (nxR l oid i (row, t, f) = (((((i + 1) % l.length : Nat) : Int), true), (row + 1, t, false))) := by
  have hne : (atB (postA l (i : Int)).f1 oid || row == l.length) = false := by rw [h2, Bool.false_or, beq_eq_false_iff_ne]; omega
  unfold nxR
  dsimp only
  rw [hne, h2, if_neg (by simp)]
  unfold messageF
  rw [Int.toNat_natCast]
  by_cases hm : messageB (postA l (i : Int)) oid t = true
  · have hm0 := hm
    unfold messageB at hm0
    rw [Bool.and_eq_true, Bool.and_eq_true, decide_eq_true_iff] at hm0
    obtain ⟨⟨a, _⟩, c⟩ := hm0
    refine .inl ⟨hm, ?_, rho_lt (post_mem l i oid a) (show newer oid t _ = true by unfold newer; rw [a, decide_eq_true c]; rfl)⟩
    rw [if_pos hm, if_pos c]
  · right
    rw [if_neg hm, if_neg (Int.lt_irrefl _)]
theorem phi_step {r r' n row : Nat} (hr : r' < r) (h : row < n) : r' * n + (n - 0) + 1 ≤ r * n + (n - row) := by
  obtain ⟨d, rfl⟩ := Nat.exists_eq_add_of_lt hr
  have : (r' + d + 1) * n = r' * n + d * n + n := by rw [Nat.add_mul, Nat.add_mul, Nat.one_mul]
  omega
theorem go_nxR {l : List S36} {oid : Int} {p : Int} {s : Nat × Int × Bool} (hg : GoodR l p s) (h : (nxR l oid p s).1.2 = true) : ∃ i : Nat, p = (i : Int) ∧ i < l.length ∧ s.1 < l.length ∧ atB (postA l (i : Int)).f1 oid = false := by
  obtain ⟨⟨i, rfl, hi⟩, hs⟩ := hg
  refine ⟨i, rfl, hi, ?_⟩
  unfold nxR at h
  by_cases h1 : (atB (postA l i).f1 oid || s.1 == l.length) = true
  · rw [if_pos h1] at h; cases h
  · rw [Bool.or_eq_true, not_or, beq_iff_eq] at h1
    exact ⟨by omega, by simpa using h1.1⟩
theorem steps_phi {l : List S36} (hv : Vat l l.length) (oid : Int) : ∀ (f : Nat) (p : Int) (s : Nat × Int × Bool), GoodR l p s → (stepsR (nxR l oid) f p s).length ≤ phiR l oid s + 1
  | 0, p, s, _ => Nat.zero_le _
  | f + 1, p, s, hg => by
    unfold stepsR
    by_cases h : (nxR l oid p s).1.2 = true
    rotate_left
    · rw [if_neg h]; simp
    rw [if_pos h, List.length_cons]
    have hgo := good_nxR hv oid p s hg h
    have ih := steps_phi hv oid f (nxR l oid p s).1.1 (nxR l oid p s).2 hgo.1
    have hs : phiR l oid (nxR l oid p s).2 + 1 ≤ phiR l oid s := by
      clear ih hgo
      obtain ⟨i, rfl, hi, hr, ha⟩ := go_nxR hg h
      obtain ⟨row, t, b⟩ := s
      rcases step_nxR (t := t) (f := b) hr ha with ⟨_, e, hrho⟩ | e
      · rw [e]
        exact phi_step hrho hr
      · rw [e]
        show rho l oid t * l.length + (l.length - (row + 1)) + 1 ≤ rho l oid t * l.length + (l.length - row)
        have : row < l.length := hr
        omega
    omega
theorem route_len {l : List S36} (hv : Vat l l.length) (oid t : Int) {p : Nat} (hp : p < l.length) : (routeS l oid p t).length ≤ (l.length + 1) * l.length + 1 := by
  refine Nat.le_trans (steps_phi hv oid _ p (0, t, false) ⟨⟨p, rfl, hp⟩, Nat.zero_le _⟩) (Nat.succ_le_succ ?_)
  show rho l oid t * l.length + (l.length - 0) ≤ _
  have := Nat.mul_le_mul_right l.length (rho_le l oid t)
  rw [Nat.add_mul, Nat.one_mul]
  omega
/-- none of the places behind has it -/
def RowN (l : List S36) (oid : Int) (p : Int) (row : Nat) : Prop := ∀ i k : Nat, i < l.length → 1 ≤ k → k ≤ row → ((i + k : Nat) = p ∨ (i + k : Nat) = p + l.length) → atB (postA l (i : Int)).f1 oid = false
theorem row_next {l : List S36} {oid : Int} {p row : Nat} (h : RowN l oid p row) (hp : p < l.length) (ha : atB (postA l (p : Int)).f1 oid = false) : RowN l oid (((p + 1) % l.length : Nat) : Int) (row + 1) := by
  intro i k hi h1 h2 h3
  by_cases hw : p + 1 = l.length
  · rw [hw, Nat.mod_self] at h3
    by_cases hk : k = 1
    · have : i = p := by omega
      rw [this]; exact ha
    · exact h i (k - 1) hi (by omega) (by omega) (by omega)
  · rw [Nat.mod_eq_of_lt (by omega)] at h3
    by_cases hk : k = 1
    · have : i = p := by omega
      rw [this]; exact ha
    · exact h i (k - 1) hi (by omega) (by omega) (by omega)
theorem row_all {l : List S36} {oid : Int} {p : Nat} (hp : p < l.length) (h : RowN l oid p l.length) : (whereL l oid).2 = false := by
  cases hb : (whereL l oid).2 with
  | false => rfl
  | true =>
    obtain ⟨i, x, h1, h2, _⟩ := where_some hb
    have hi := (List.getElem?_eq_some_iff.1 h1).1
    have : atB (postA l (i : Int)).f1 oid = false := by
      by_cases hc : i < p
      · exact h i (p - i) hi (by omega) (by omega) (by omega)
      · exact h i (p + l.length - i) hi (by omega) (by omega) (by omega)
    rw [postA_some h1, h2] at this
    cases this
theorem steps_found {l : List S36} (hv : Vat l l.length) (oid : Int) : ∀ (f : Nat) (p : Int) (s : Nat × Int × Bool), GoodR l p s → RowN l oid p s.1 → muR l oid s < f → (stepsE (nxR l oid) f p s).2.2 = (whereL l oid).2
  | 0, p, s, _, _, h => by omega
  | f + 1, p, s, hg, hr, hm => by
    unfold stepsE
    by_cases h : (nxR l oid p s).1.2 = true
    · rw [if_pos h]
      have hgo := good_nxR hv oid p s hg h
      refine steps_found hv oid f _ _ hgo.1 ?_ (by omega)
      obtain ⟨i, rfl, hi, hr1, ha⟩ := go_nxR hg h
      obtain ⟨row, t, b⟩ := s
      rcases step_nxR (t := t) (f := b) hr1 ha with ⟨_, e, _⟩ | e
      · rw [e]
        intro j k _ h1 h2
        have : k ≤ 0 := h2
        omega
      · rw [e]
        exact row_next hr hi ha
    · rw [if_neg h]
      obtain ⟨⟨i, rfl, hi⟩, hs⟩ := hg
      unfold nxR at h ⊢
      by_cases h1 : (atB (postA l i).f1 oid || s.1 == l.length) = true
      rotate_left
      · rw [if_neg h1] at h; exact absurd rfl h
      rw [if_pos h1]
      show atB (postA l i).f1 oid = _
      by_cases h2 : atB (postA l i).f1 oid = true
      · rw [h2, where_mem (post_mem1 l i oid h2) h2]
      · rw [Bool.or_eq_true, beq_iff_eq] at h1
        have h3 : s.1 = l.length := h1.resolve_left h2
        rw [h3] at hr
        rw [row_all hi hr]
        simpa using h2
theorem route_found {l : List S36} {oid place time : Int} (hc : checkF l = true) (ho : 1 ≤ oid) (hp : 0 ≤ place ∧ place < l.length) :
    ((routeF l place oid time).2.2 ≠ 0 → time < -1 ∨ 1099511627776 < time) ∧
    ((routeF l place oid time).2.2 = 0 → (routeF l place oid time).2.1 = (whereL l oid).2 ∧ (routeF l place oid time).1.length ≤ (l.length + 1) * l.length + 1) := by
  have hv := check_vat hc
  unfold routeF
  by_cases ht : timeOk oid time = true
  · have hg := given_of (l := l) (ok := timeOk oid time) (ps := [place]) hc ht (fun p hm => by rw [List.mem_singleton] at hm; rw [hm]; exact hp)
    rw [if_pos hg]
    obtain ⟨i, rfl⟩ : ∃ i : Nat, place = (i : Int) := ⟨place.toNat, (Int.toNat_of_nonneg hp.1).symm⟩
    refine ⟨fun h => absurd rfl h, fun _ => ⟨?_, route_len hv oid time (by omega)⟩⟩
    exact steps_found hv oid _ i (0, time, false) ⟨⟨i, rfl, by omega⟩, Nat.zero_le _⟩ (fun j k _ h1 h2 => by have : k ≤ 0 := h2; omega) (Nat.lt_succ_self _)
  · have hf : timeOk oid time = false := by simpa using ht
    have hne : ¬ (givenC l (timeOk oid time) [place] = 0) := by
      unfold givenC
      rw [if_pos hc, hf, if_pos (by simp)]
      simp
    rw [if_neg hne]
    refine ⟨fun _ => ?_, fun h => absurd h hne⟩
    unfold timeOk at hf
    rw [decide_eq_true ho, Bool.true_and, Bool.and_eq_false_iff, decide_eq_false_iff_not, decide_eq_false_iff_not] at hf
    omega
end Go.Proofs.Ytjnceoohlcchnaa.Print

/-! what a second search finds -/
namespace Go.Proofs.Ytjnceoohlcchnaa.Print
open Go Go.RowKit Go.Deep Go.Proofs.YtjnceoohlcchnaaW.PrintWords Go.Proofs.YtjnceoohlcchnaaW.PrintLast Go.Proofs.YtjnceoohlcchnaaW.PrintMore
def Agreed (h : S31) (p q : S36) : Prop := q.f0 = p.f0 ∧ q.f1 = p.f1 ∧ ((atB q.f2 h.f0 = atB p.f2 h.f0 ∧ lookL q.f2 h.f0 = lookL p.f2 h.f0) ∨ (atB q.f2 h.f0 = true ∧ lookL q.f2 h.f0 = h ∧ atB p.f1 h.f0 = false ∧ (atB p.f2 h.f0 = true → (lookL p.f2 h.f0).f2 < h.f2)))
/-- a map some of whose places were told a hint -/
structure Told (l n : List S36) (h : S31) : Prop where
  len : n.length = l.length
  vat : Vat n l.length
  agr : Agrees n h
  at' : ∀ (i : Nat) (p : S36), l[i]? = some p → ∃ q, n[i]? = some q ∧ Agreed h p q
theorem told_refl {l : List S36} {h : S31} {a : Nat} (hv : Vat l l.length) (hh : HasAt l a h) : Told l l h :=
  ⟨rfl, hv, agrees_has hv hh, fun _ p hp => ⟨p, hp, rfl, rfl, .inl ⟨rfl, rfl⟩⟩⟩
theorem told_tell {l n : List S36} {h : S31} (T : Told l n h) (hh : HintV l.length h) {i : Nat} {x : S36} (hi : n[i]? = some x) (hup : x.f0 = true) : Told l (tellF n i h).2 h := by
  refine ⟨by rw [tell_len, T.len], vat_tell T.vat hi hh hup T.agr, agrees_tell hi T.agr, fun j p hp => ?_⟩
  obtain ⟨q, hq, e1, e2, e3⟩ := T.at' j p hp
  rcases tell_cases hi h with ⟨e, _⟩ | ⟨e, c1, c2⟩
  · rw [e]; exact ⟨q, hq, e1, e2, e3⟩
  · rw [e]
    dsimp only
    rw [set_at hi]
    by_cases hj : j = i
    · subst hj
      rw [if_pos rfl]
      rw [hi] at hq
      cases hq
      have hs := (T.vat.ok x (List.mem_of_getElem? hi)).hints.sorted
      obtain ⟨q1, q2⟩ := look_of_mem (put_sorted hs h) (x := h) (put_mem.2 (.inl rfl))
      refine ⟨_, rfl, e1, e2, .inr ⟨q1, q2, by rw [← e2]; exact c1, fun hb => ?_⟩⟩
      rcases e3 with ⟨r1, r2⟩ | ⟨_, _, _, r4⟩
      · rcases c2 with c2 | c2
        · rw [← r2]; exact c2.2
        · rw [← r1, c2.1] at hb; cases hb
      · exact r4 hb
    · rw [if_neg hj]
      exact ⟨q, hq, e1, e2, e3⟩
def Knows (n : List S36) (i : Nat) (h : S31) : Prop := ∃ q, n[i]? = some q ∧ (atB q.f1 h.f0 = true ∨ atB q.f2 h.f0 = true ∧ h.f2 ≤ (lookL q.f2 h.f0).f2)
theorem knows_tell {n : List S36} {m : Int} (hv : Vat n m) {h : S31} {i j : Nat} {x : S36} (hj : n[j]? = some x) (hk : Knows n i h ∨ i = j ∧ (tellF n j h).1 = true) : Knows (tellF n j h).2 i h := by
  rcases tell_cases hj h with ⟨e, c⟩ | ⟨e, _, _⟩
  · rw [e]
    rcases hk with hk | ⟨rfl, hk⟩
    · exact hk
    · exact ⟨x, hj, c hk⟩
  · rw [e]
    dsimp only
    unfold Knows
    rw [set_at hj]
    by_cases hij : i = j
    · rw [if_pos hij]
      obtain ⟨q1, q2⟩ := look_of_mem (put_sorted (hv.ok x (List.mem_of_getElem? hj)).hints.sorted h) (x := h) (put_mem.2 (.inl rfl))
      exact ⟨_, rfl, .inr ⟨q1, by dsimp only; rw [q2]; exact Int.le_refl _⟩⟩
    · rw [if_neg hij]
      exact hk.elim id (fun c => absurd c.1 hij)
theorem post_none {l : List S36} {i : Int} (h : l[i.toNat]? = none) : postA l i = ⟨false, [], []⟩ := by
  unfold postA
  rw [List.getD_eq_getElem?_getD, h]; rfl
theorem post_is {l : List S36} {i : Int} {x : S36} (h : l[i.toNat]? = some x) : postA l i = x := by
  unfold postA
  rw [List.getD_eq_getElem?_getD, h]; rfl
theorem tells_told {l : List S36} {h : S31} (hh : HintV l.length h) : ∀ (ps : List Int) (n r : List S36), Told l n h → tellsF h ps n = some r → Told l r h ∧ (∀ i : Nat, Knows n i h ∨ ((i : Int) ∈ ps ∧ (postA n i).f0 = true) → Knows r i h)
  | [], n, r, T, e => by
    unfold tellsF at e
    cases e
    exact ⟨T, fun i hi => hi.elim id (fun c => by cases c.1)⟩
  | p :: ps, n, r, T, e => by
    unfold tellsF at e
    by_cases h1 : (postA n p).f0 = true
    · rw [if_pos h1] at e
      by_cases h2 : (tellF n p.toNat h).1 = true
      · rw [if_pos h2] at e
        cases hx : n[p.toNat]? with
        | none => rw [post_none hx] at h1; cases h1
        | some x =>
          have h1x : x.f0 = true := by rw [← post_is hx]; exact h1
          obtain ⟨T2, K⟩ := tells_told hh ps _ r (told_tell T hh hx h1x) e
          refine ⟨T2, fun i hi => ?_⟩
          rcases hi with hi | ⟨hi, hu⟩
          · exact K i (.inl (knows_tell T.vat hx (.inl hi)))
          · rcases List.mem_cons.1 hi with hi | hi
            · subst hi
              exact K i (.inl (knows_tell T.vat hx (.inr ⟨by rw [Int.toNat_natCast], h2⟩)))
            · refine K i (.inr ⟨hi, ?_⟩)
              cases hy : n[i]? with
              | none => rw [post_none (i := (i : Int)) (by rw [Int.toNat_natCast]; exact hy)] at hu; cases hu
              | some y =>
                rw [postA_some hy] at hu
                rcases tell_cases hx h with ⟨e, _⟩ | ⟨e, _, _⟩
                · rw [e, postA_some hy]; exact hu
                · rw [e]
                  dsimp only
                  by_cases hij : i = p.toNat
                  · rw [postA_some (x := ⟨x.f0, x.f1, putL x.f2 h⟩) (by rw [set_at hx, if_pos hij])]
                    exact h1x
                  · rw [postA_some (x := y) (by rw [set_at hx, if_neg hij]; exact hy)]
                    exact hu
      · rw [if_neg h2] at e; cases e
    · rw [if_neg h1] at e
      obtain ⟨T2, K⟩ := tells_told hh ps n r T e
      refine ⟨T2, fun i hi => K i (hi.elim .inl (fun c => ?_))⟩
      rcases List.mem_cons.1 c.1 with hi | hi
      · rw [← hi] at h1; exact absurd c.2 h1
      · exact .inr ⟨hi, c.2⟩
theorem told_post {l n : List S36} {h : S31} (T : Told l n h) (p : Int) : Agreed h (postA l p) (postA n p) := by
  cases hx : l[p.toNat]? with
  | none =>
    have : n[p.toNat]? = none := by
      rw [List.getElem?_eq_none_iff] at hx ⊢
      rw [T.len]; exact hx
    rw [post_none hx, post_none this]
    exact ⟨rfl, rfl, .inl ⟨rfl, rfl⟩⟩
  | some x =>
    obtain ⟨q, hq, e⟩ := T.at' _ x hx
    rw [post_is hx, post_is hq]
    exact e
theorem told_has {l n : List S36} {h g : S31} (T : Told l n h) {i : Nat} (hg : HasAt l i g) : HasAt n i g := by
  obtain ⟨p, hp, hm⟩ := hg
  obtain ⟨q, hq, _, e, _⟩ := T.at' i p hp
  exact ⟨q, hq, by rw [e]; exact hm⟩
theorem told_where {l n : List S36} {h : S31} {a : Nat} (T : Told l n h) (hh : HasAt l a h) : whereL n h.f0 = (h, true) := has_where T.vat (told_has T hh)
theorem told_check {l n : List S36} {h : S31} (T : Told l n h) (hc : checkF l = true) : checkF n = true := by
  have hm := (check_iff l).1 hc
  refine (check_iff n).2 ⟨by rw [T.len]; exact hm.one, by rw [T.len]; exact hm.most, ?_⟩
  rw [T.len]
  exact (vat_iff _ _).2 T.vat
theorem lastI_one (p : Int) : lastI [p] = p := rfl
theorem lastI_cons (p : Int) {r : List Int} (h : r ≠ []) : lastI (p :: r) = lastI r := by
  unfold lastI
  cases r with
  | nil => exact absurd rfl h
  | cons a r =>
    rw [List.length_cons, Nat.add_sub_cancel, List.length_cons, List.getD_cons_succ, Nat.add_sub_cancel]
theorem steps_ne {σ : Type} (nx : Int → σ → (Int × Bool) × σ) (f : Nat) (p : Int) (s : σ) : stepsR nx (f + 1) p s ≠ [] := by
  unfold stepsR
  exact List.cons_ne_nil _ _
theorem stepsR_go {σ : Type} {nx : Int → σ → (Int × Bool) × σ} {f : Nat} {p : Int} {s : σ} {q : Int} {s2 : σ} (h : nx p s = ((q, true), s2)) : stepsR nx (f + 1) p s = p :: stepsR nx f q s2 := by
  rw [stepsR, h, if_pos rfl]
theorem stepsR_stop {σ : Type} {nx : Int → σ → (Int × Bool) × σ} {f : Nat} {p : Int} {s : σ} (h : ¬ (nx p s).1.2 = true) : stepsR nx (f + 1) p s = [p] := by
  rw [stepsR, if_neg h]
/-- where the object is, one stays -/
theorem stay_nxH {n : List S36} {oid p t : Int} (h : atB (postA n p).f1 oid = true) (f : Nat) : stepsR (nxH n oid) (f + 1) p t = [p] := by
  have : (nxH n oid p t).1.2 = false := by unfold nxH; rw [if_pos h]
  unfold stepsR
  rw [this]
  rfl
theorem has_atB {l : List S36} {m : Int} (hv : Vat l m) {a : Nat} {h : S31} (hh : HasAt l a h) : atB (postA l (a : Int)).f1 h.f0 = true := by
  obtain ⟨p, hp, hm⟩ := hh
  rw [postA_some hp]
  exact at_of_mem (hv.ok p (List.mem_of_getElem? hp)).has.sorted hm
/-- what a hint of the object says -/
theorem hint_old {l : List S36} {m : Int} (hv : Vat l m) {a : Nat} {h : S31} (hh : HasAt l a h) {p : Int} (hb : atB (postA l p).f2 h.f0 = true) : (lookL (postA l p).f2 h.f0).f2 < h.f2 ∨ (lookL (postA l p).f2 h.f0).f2 = h.f2 ∧ (lookL (postA l p).f2 h.f0).f1 = h.f1 := by
  have hm := post_mem l p _ hb
  obtain ⟨a1, a2⟩ := at_found hb
  obtain ⟨j, hj⟩ := hint_of hm a1
  exact hv.older a j h _ hh hj a2.symm
theorem shorter {l n : List S36} {h : S31} {a : Nat} (hv : Vat l l.length) (hh : HasAt l a h) (T : Told l n h) : ∀ (f : Nat) (p t : Int), rho l h.f0 t + 2 ≤ f → (t < h.f2 ∨ p = h.f1) →
    ((stepsR (nxH n h.f0) f p t).length = (stepsR (nxH l h.f0) f p t).length ∧ lastI (stepsR (nxH n h.f0) f p t) = lastI (stepsR (nxH l h.f0) f p t)) ∨
    (foundB n h.f0 (stepsR (nxH n h.f0) f p t) = true ∧ (stepsR (nxH n h.f0) f p t).length ≤ (stepsR (nxH l h.f0) f p t).length + (if foundB l h.f0 (stepsR (nxH l h.f0) f p t) = true then 0 else 1))
  | 0, _, _, h0, _ => by omega
  | 1, _, _, h0, _ => by omega
  | f + 2, p, t, h0, hi => by
    obtain ⟨e0, e1, e2⟩ := told_post T p
    have hha : h.f1 = (a : Int) := hv.here a h hh
    by_cases c1 : atB (postA l p).f1 h.f0 = true
    · rw [stay_nxH c1, stay_nxH (by rw [e1]; exact c1)]
      exact .inl ⟨rfl, rfl⟩
    have c1n : ¬ atB (postA n p).f1 h.f0 = true := by rw [e1]; exact c1
    have ht : t < h.f2 := hi.resolve_right (fun e => c1 (by rw [e, hha]; exact has_atB hv hh))
    rcases e2 with ⟨g1, g2⟩ | ⟨g1, g2, g3, g4⟩
    · -- the same hint
      have en : nxH n h.f0 p t = nxH l h.f0 p t := by
        unfold nxH
        rw [if_neg c1, if_neg c1n, g1, g2]
      by_cases hgo : (nxH l h.f0 p t).1.2 = true
      · have c2 : (atB (postA l p).f2 h.f0 && decide (t < (lookL (postA l p).f2 h.f0).f2)) = true := by
          unfold nxH at hgo
          rw [if_neg c1] at hgo
          by_cases c2 : (atB (postA l p).f2 h.f0 && decide (t < (lookL (postA l p).f2 h.f0).f2)) = true
          · exact c2
          · rw [if_neg c2] at hgo; cases hgo
        have ev : nxH l h.f0 p t = (((lookL (postA l p).f2 h.f0).f1, true), (lookL (postA l p).f2 h.f0).f2) := by
          unfold nxH
          rw [if_neg c1, if_pos c2]
        have hb : atB (postA l p).f2 h.f0 = true := by rw [Bool.and_eq_true] at c2; exact c2.1
        have hr := rho_lt (t := t) (post_mem l p _ hb) (show newer h.f0 t _ = true from c2)
        have ho := hint_old hv hh hb
        have ih := shorter hv hh T (f + 1) (lookL (postA l p).f2 h.f0).f1 (lookL (postA l p).f2 h.f0).f2 (by omega) (ho.elim .inl (fun c => .inr c.2))
        rw [stepsR_go (f := f + 1) ev, stepsR_go (f := f + 1) (en.trans ev)]
        have n1 := steps_ne (nxH l h.f0) f (lookL (postA l p).f2 h.f0).f1 (lookL (postA l p).f2 h.f0).f2
        have n2 := steps_ne (nxH n h.f0) f (lookL (postA l p).f2 h.f0).f1 (lookL (postA l p).f2 h.f0).f2
        generalize stepsR (nxH l h.f0) (f + 1) (lookL (postA l p).f2 h.f0).f1 (lookL (postA l p).f2 h.f0).f2 = A at ih n1 ⊢
        generalize stepsR (nxH n h.f0) (f + 1) (lookL (postA l p).f2 h.f0).f1 (lookL (postA l p).f2 h.f0).f2 = B at ih n2 ⊢
        unfold foundB at ih ⊢
        rw [lastI_cons p n1, lastI_cons p n2, List.length_cons, List.length_cons]
        rcases ih with ⟨i1, i2⟩ | ⟨i1, i2⟩
        · exact .inl ⟨by omega, i2⟩
        · exact .inr ⟨i1, by omega⟩
      · rw [stepsR_stop (f := f + 1) hgo, stepsR_stop (f := f + 1) (by rw [en]; exact hgo)]
        exact .inl ⟨rfl, rfl⟩
    · -- it was told
      right
      have ev : nxH n h.f0 p t = ((h.f1, true), h.f2) := by
        unfold nxH
        rw [if_neg c1n, g1, g2, decide_eq_true ht]
        rfl
      have hs : stepsR (nxH n h.f0) (f + 2) p t = [p, h.f1] := by
        have hst : atB (postA n h.f1).f1 h.f0 = true := by rw [hha]; exact has_atB T.vat (told_has T hh)
        rw [stepsR_go (f := f + 1) ev, stay_nxH hst]
      rw [hs]
      refine ⟨?_, ?_⟩
      · unfold foundB
        rw [show lastI [p, h.f1] = h.f1 from rfl, hha]
        exact has_atB T.vat (told_has T hh)
      · rw [show [p, h.f1].length = 2 from rfl]
        by_cases hgo : (nxH l h.f0 p t).1.2 = true
        · have n1 := List.length_pos_iff.2 (steps_ne (nxH l h.f0) f (nxH l h.f0 p t).1.1 (nxH l h.f0 p t).2)
          rw [stepsR_go (f := f + 1) (nx := nxH l h.f0) (p := p) (s := t) (q := (nxH l h.f0 p t).1.1) (s2 := (nxH l h.f0 p t).2) (Prod.ext (Prod.ext rfl hgo) rfl), List.length_cons]
          omega
        · rw [stepsR_stop (f := f + 1) hgo, if_neg]
          · exact Nat.le_refl _
          · unfold foundB
            rw [lastI_one]
            exact c1
theorem ask_mono (place hp : Int) : ∀ (m p : Nat) (f : Bool) (s : Nat), s ≤ askN place hp m p f s
  | 0, _, _, s => Nat.le_refl _
  | m + 1, p, f, s => by
    unfold askN
    split
    · exact Nat.le_refl _
    · split
      · exact ask_mono place hp m (p + 1) f s
      · exact Nat.le_trans (Nat.le_succ _) (ask_mono place hp m (p + 1) _ (s + 1))
theorem ask_gt (place hp : Int) {q : Nat} (hq : (q : Int) ≠ place) : ∀ (m p s : Nat), p ≤ q → q < p + m → s + 1 ≤ askN place hp m p false s
  | 0, p, s, h1, h2 => by omega
  | m + 1, p, s, h1, h2 => by
    unfold askN
    rw [if_neg (by simp)]
    split
    · next h =>
      rw [beq_iff_eq] at h
      have : p ≠ q := fun e => hq (by rw [← e]; exact h)
      exact ask_gt place hp hq m (p + 1) s (by omega) (by omega)
    · exact ask_mono place hp m (p + 1) _ (s + 1)
/-- the parts of a search that found something -/
theorem search_ok {l : List S36} {place oid : Int} (h0 : (searchF l place oid).2.2.2 = 0) : ∃ (a : Nat) (h : S31) (b : Nat), checkF l = true ∧ 1 ≤ oid ∧ place = (b : Int) ∧ b < l.length ∧ (postA l place).f0 = true ∧ whereL l oid = (h, true) ∧ h.f0 = oid ∧ h.f1 = (a : Int) ∧ HasAt l a h ∧ HintV l.length h ∧
    ((a = b ∧ searchF l place oid = (l, h, 0, 0)) ∨ (a ≠ b ∧ ∃ r, tellsF h (place :: followL l oid place) l = some r ∧ searchF l place oid = (r, h, ((askN place h.f1 l.length 0 (foundB l oid (followL l oid place)) (followL l oid place).length : Nat) : Int), 0))) := by
  unfold searchF at h0 ⊢
  by_cases g : givenC l (decide (1 ≤ oid)) [place] = 0
  rotate_left
  · rw [if_neg g] at h0; exact absurd h0 g
  rw [if_pos g] at h0 ⊢
  obtain ⟨g1, g2, _, _⟩ := given_in g
  obtain ⟨b, hb, hbl, _⟩ := given_post g
  have hv := check_vat g2
  by_cases h1 : (postA l place).f0 = true
  rotate_left
  · rw [if_neg h1] at h0; cases h0
  rw [if_pos h1] at h0 ⊢
  by_cases h2 : (whereL l oid).2 = true
  rotate_left
  · rw [if_neg h2] at h0; cases h0
  rw [if_pos h2] at h0 ⊢
  obtain ⟨a, x, ha, hx, hhas, h00, hhv⟩ := has_here hv h2
  refine ⟨a, (whereL l oid).1, b, g2, by simpa using g1, hb, hbl, h1, Prod.ext rfl h2, h00, ha, hhas, hhv, ?_⟩
  by_cases h3 : ((whereL l oid).1.f1 == place) = true
  · rw [if_pos h3]
    rw [beq_iff_eq] at h3
    exact .inl ⟨by omega, rfl⟩
  · rw [if_neg h3] at h0 ⊢
    rw [beq_iff_eq] at h3
    refine .inr ⟨fun e => h3 (by rw [ha, hb, e]), ?_⟩
    cases ht : tellsF (whereL l oid).1 (place :: followL l oid place) l with
    | none => rw [ht] at h0; cases h0
    | some r => exact ⟨r, rfl, rfl⟩
/-- what a search in a told map comes to -/
theorem told_search {l n : List S36} {h : S31} {a : Nat} (hc : checkF l = true) (hh : HasAt l a h) (T : Told l n h) (ho : 1 ≤ h.f0) {b : Nat} (hb : b < l.length) (hup : (postA l (b : Int)).f0 = true) :
    (a = b → searchF n (b : Int) h.f0 = (n, h, 0, 0)) ∧ (a ≠ b → searchF n (b : Int) h.f0 = searchO h (askN (b : Int) h.f1 n.length 0 (foundB n h.f0 (followL n h.f0 (b : Int))) (followL n h.f0 (b : Int)).length) (tellsF h ((b : Int) :: followL n h.f0 (b : Int)) n)) := by
  have hg : givenC n (decide (1 ≤ h.f0)) [(b : Int)] = 0 := given_of (told_check T hc) (decide_eq_true ho) (fun p hm => by rw [List.mem_singleton] at hm; rw [hm, T.len]; omega)
  have hha : h.f1 = (a : Int) := (check_vat hc).here a h hh
  unfold searchF
  rw [if_pos hg, (told_post T (b : Int)).1, if_pos hup, told_where T hh, if_pos rfl]
  dsimp only
  refine ⟨fun e => ?_, fun e => ?_⟩
  · rw [if_pos (by rw [hha, e]; simp)]
  · rw [if_neg (by rw [hha, beq_iff_eq]; omega)]
/-- SHORTER WAYS -/
theorem again {l : List S36} {place oid : Int} (other : Int) (h0 : (searchF l place oid).2.2.2 = 0) : ∃ (n : List S36) (h : S31) (s1 s2 : Int), searchF l place oid = (n, h, s1, 0) ∧ searchF n place oid = (n, h, s2, 0) ∧ s2 ≤ 2 ∧ checkF n = true ∧
    ((searchF l other oid).2.2.2 ≠ 0 ∨ ((searchF n other oid).2.2.2 = 0 ∧ (searchF n other oid).2.2.1 ≤ (searchF l other oid).2.2.1) ∨ (searchF n other oid).2.2.2 = 2) := by
  obtain ⟨a, h, b, hc, ho, rfl, hbl, hup, hw, rfl, hf1, hh, hhv, hcase⟩ := search_ok h0
  have hv := check_vat hc
  have ho' : ∀ n, Told l n h → ((searchF l other h.f0).2.2.2 ≠ 0 ∨ ((searchF n other h.f0).2.2.2 = 0 ∧ (searchF n other h.f0).2.2.1 ≤ (searchF l other h.f0).2.2.1) ∨ (searchF n other h.f0).2.2.2 = 2) := by
    intro n T
    by_cases g0 : (searchF l other h.f0).2.2.2 = 0
    rotate_left
    · exact .inl g0
    right
    obtain ⟨a', h', c, _, _, rfl, hcl, hup2, hw2, _, hf2, hh2, _, hcase2⟩ := search_ok g0
    rw [hw] at hw2
    injection hw2 with hw3 _
    subst hw3
    have haa : a' = a := by omega
    subst haa
    obtain ⟨t1, t2⟩ := told_search hc hh T ho hcl hup2
    rcases hcase2 with ⟨e, hs⟩ | ⟨e, r, _, hs⟩
    · rw [t1 e, hs]
      exact .inl ⟨rfl, Int.le_refl _⟩
    · rw [t2 e, hs]
      cases ht : tellsF h ((c : Int) :: followL n h.f0 (c : Int)) n with
      | none => exact .inr rfl
      | some r2 =>
        refine .inl ⟨rfl, ?_⟩
        show ((askN _ _ _ _ _ _ : Nat) : Int) ≤ ((askN _ _ _ _ _ _ : Nat) : Int)
        have hsh := shorter hv hh T 1099511627778 (c : Int) (-1) (by have := rho_le l h.f0 (-1); have := ((check_iff l).1 hc).most; omega) (.inl (by have := hhv.t0; omega))
        have hal := (List.getElem?_eq_some_iff.1 hh.choose_spec.1).1
        have hg := ask_gt (c : Int) h.f1 (q := a') (by omega) l.length 0 (followL l h.f0 (c : Int)).length (Nat.zero_le _) (by omega)
        rw [T.len]
        unfold followL at hg ⊢
        generalize stepsR (nxH l h.f0) 1099511627778 (c : Int) (-1) = A at hsh hg ⊢
        generalize stepsR (nxH n h.f0) 1099511627778 (c : Int) (-1) = B at hsh ⊢
        rcases hsh with ⟨i1, i2⟩ | ⟨i1, i2⟩
        · have : foundB n h.f0 B = foundB l h.f0 A := by unfold foundB; rw [i2, (told_post T _).2.1]
          rw [this, i1]
          exact Int.le_refl _
        · rw [i1, ask_found]
          cases hfa : foundB l h.f0 A with
          | true => rw [hfa, if_pos rfl] at i2; rw [ask_found]; omega
          | false => rw [hfa, if_neg (by simp)] at i2; omega
  rcases hcase with ⟨e, hs⟩ | ⟨e, r, ht, hs⟩
  · exact ⟨l, h, 0, 0, hs, hs, by decide, hc, ho' l (told_refl hv hh)⟩
  · obtain ⟨T, K⟩ := tells_told hhv _ l r (told_refl hv hh) ht
    have hk := K b (.inr ⟨List.mem_cons_self .., hup⟩)
    obtain ⟨q, hq, hk⟩ := hk
    have hpq : postA r (b : Int) = q := postA_some hq
    obtain ⟨_, t2⟩ := told_search hc hh T ho hbl hup
    have hn1 : ¬ atB (postA r (b : Int)).f1 h.f0 = true := by
      rw [(told_post T (b : Int)).2.1]
      intro hc1
      obtain ⟨m1, m2⟩ := at_found hc1
      obtain ⟨p, hp⟩ : ∃ p, l[b]? = some p := ⟨_, List.getElem?_eq_getElem hbl⟩
      rw [postA_some hp] at m1 m2
      have e2 := hv.once b a _ h ⟨p, hp, m1⟩ hh m2
      have := hv.here b _ ⟨p, hp, m1⟩
      rw [e2, hf1] at this
      omega
    have hk2 : atB (postA r (b : Int)).f2 h.f0 = true ∧ h.f2 ≤ (lookL (postA r (b : Int)).f2 h.f0).f2 := by
      rw [hpq]
      rw [hpq] at hn1
      exact hk.resolve_left hn1
    have hold := hint_old T.vat (told_has T hh) hk2.1
    have hl2 : (lookL (postA r (b : Int)).f2 h.f0).f2 = h.f2 := by rcases hold with c | c <;> omega
    have hl1 : (lookL (postA r (b : Int)).f2 h.f0).f1 = h.f1 := by rcases hold with c | c; omega; exact c.2
    have hst : atB (postA r h.f1).f1 h.f0 = true := by rw [hf1]; exact has_atB T.vat (told_has T hh)
    have hfol : followL r h.f0 (b : Int) = [(b : Int), h.f1] := by
      have n1 : nxH r h.f0 (b : Int) (-1) = ((h.f1, true), h.f2) := by
        unfold nxH
        rw [if_neg hn1, hk2.1, hl2, hl1, decide_eq_true (by have := hhv.t0; omega)]
        rfl
      unfold followL
      rw [show (1099511627778 : Nat) = 1099511627777 + 1 from rfl, stepsR_go n1, show (1099511627777 : Nat) = 1099511627776 + 1 from rfl, stay_nxH hst]
    have hfo : foundB r h.f0 [(b : Int), h.f1] = true := by
      unfold foundB
      rw [show lastI [(b : Int), h.f1] = h.f1 from rfl]
      exact hst
    have tb : tellF r b h = (true, r) := by
      unfold tellF
      rw [if_neg hn1, hk2.1, decide_eq_true hk2.2]
      rfl
    have ta : tellF r a h = (true, r) := by
      unfold tellF
      rw [← hf1, if_pos hst]
    have hupr : (postA r (b : Int)).f0 = true := by rw [(told_post T (b : Int)).1]; exact hup
    have htl : tellsF h [(b : Int), (b : Int), h.f1] r = some r := by
      unfold tellsF
      rw [if_pos hupr, Int.toNat_natCast, tb, if_pos rfl]
      dsimp only
      unfold tellsF
      rw [if_pos hupr, Int.toNat_natCast, tb, if_pos rfl]
      dsimp only
      unfold tellsF
      by_cases hua : (postA r h.f1).f0 = true
      · rw [if_pos hua, hf1, Int.toNat_natCast, ta, if_pos rfl]
        rfl
      · rw [if_neg hua]
        rfl
    refine ⟨r, h, _, 2, hs, ?_, by decide, told_check T hc, ho' r T⟩
    rw [t2 e, hfol, hfo, htl, ask_found]
    rfl
end Go.Proofs.Ytjnceoohlcchnaa.Print

/-! Whether two maps are equal. -/
namespace Go.Proofs.Ytjnceoohlcchnaa.Print
open Go Go.RowKit Go.Deep Go.Proofs.YtjnceoohlcchnaaW.PrintWords Go.Proofs.YtjnceoohlcchnaaW.PrintLast Go.Proofs.YtjnceoohlcchnaaW.PrintMore

def sameBy {α : Type} (e : α → α → Bool) : List α → List α → Bool
  | [], [] => true
  | x :: a, y :: b => e x y && sameBy e a b
  | _, _ => false
theorem sameBy_ne {α : Type} {e : α → α → Bool} : ∀ {a b : List α}, a.length ≠ b.length → sameBy e a b = false
  | [], [], h => absurd rfl h
  | x :: a, y :: b, h => by
    unfold sameBy
    rw [sameBy_ne (a := a) (b := b) (fun c => h (by rw [List.length_cons, List.length_cons, c])), Bool.and_false]
  | [], _ :: _, _ => rfl
  | _ :: _, [], _ => rfl
theorem sameBy_drop {α : Type} {e : α → α → Bool} {a b : List α} {i : Nat} {x y : α} (hx : a[i]? = some x) (hy : b[i]? = some y) : sameBy e (a.drop i) (b.drop i) = (e x y && sameBy e (a.drop (i + 1)) (b.drop (i + 1))) := by
  obtain ⟨h1, rfl⟩ := List.getElem?_eq_some_iff.1 hx
  obtain ⟨h2, rfl⟩ := List.getElem?_eq_some_iff.1 hy
  rw [List.drop_eq_getElem_cons h1, List.drop_eq_getElem_cons h2, sameBy]
theorem sameBy_end {α : Type} {e : α → α → Bool} {a b : List α} {i : Nat} (ha : a.length ≤ i) (hb : b.length ≤ i) : sameBy e (a.drop i) (b.drop i) = true := by
  rw [List.drop_of_length_le ha, List.drop_of_length_le hb, sameBy]
theorem sameBy_refl {α : Type} {e : α → α → Bool} (h : ∀ x, e x x = true) : ∀ a : List α, sameBy e a a = true
  | [] => rfl
  | x :: a => by unfold sameBy; rw [h x, sameBy_refl h a]; rfl
theorem sameBy_eq {α : Type} {e : α → α → Bool} (h : ∀ x y, e x y = true → x = y) : ∀ {a b : List α}, sameBy e a b = true → a = b
  | [], [], _ => rfl
  | x :: a, y :: b, g => by
    unfold sameBy at g
    rw [Bool.and_eq_true] at g
    rw [h x y g.1, sameBy_eq h g.2]
  | [], _ :: _, g => by cases g
  | _ :: _, [], g => by cases g
def hintE (a b : S31) : Bool := (a.f0 == b.f0) && ((a.f1 == b.f1) && (a.f2 == b.f2))
theorem hintE_refl (a : S31) : hintE a a = true := by unfold hintE; simp
theorem hintE_eq (a b : S31) (h : hintE a b = true) : a = b := by
  obtain ⟨a0, a1, a2⟩ := a
  obtain ⟨b0, b1, b2⟩ := b
  unfold hintE at h
  rw [Bool.and_eq_true, Bool.and_eq_true, beq_iff_eq, beq_iff_eq, beq_iff_eq] at h
  obtain ⟨h1, h2, h3⟩ := h
  dsimp only at h1 h2 h3
  rw [h1, h2, h3]
set_option maxRecDepth 100000 in
theorem equal_any (A B : Option Addr) (n ca m cb : Nat) (a b : List S31) (w : World) (hn : n = a.length) (hm : m = b.length) (ha : Kd.C k31 w A a.length a) (hb : Kd.C k31 w B b.length b) (hs : a.length ≤ 1000000000000) :
    Calls Try.prog 83 #[.slice A n ca, .slice B m cb] w fun e w' => e = .returned (.bool (sameBy hintE a b)) ∧ Below w.heap.size w w' := by
  subst hn
  subst hm
  have HA := Aside0.mk ha
  have HB := Aside0.mk hb
  clear ha hb
  go_enter Try.func83, Try.ntmps83
  by_cases hl : a.length = b.length
  rotate_left
  · have HV := Aside0.mk (sameBy_ne (e := hintE) hl)
    have dl : ((a.length : Int) != (b.length : Int)) = true := by rw [bne_iff_ne]; omega
    clear hl
    go_wp2_with fail
    go_returns
    exact ⟨by rw [HV.out]; rfl, Below.refl _ _⟩
  have HL := Aside0.mk hl
  have dl : ((a.length : Int) != (b.length : Int)) = false := by rw [hl]; simp
  clear hl
  go_wp2_with fail
  go_loopw [13] (fun u13 wr => ∃ i : Nat, u13 = .int .i64 (i : Int) ∧ i ≤ a.length ∧ Aside0 (sameBy hintE a b = sameBy hintE (a.drop i) (b.drop i)) ∧ Aside0 (Below w.heap.size w wr)) (fun u13 _ => a.length - (intOf u13).toNat)
  case atStart => exact ⟨0, rfl, Nat.zero_le _, ⟨rfl⟩, ⟨Below.refl _ _⟩⟩
  case round =>
    obtain ⟨i, rfl, hi, HE, HBR⟩ := hrel
    by_cases hlt : i < a.length
    rotate_left
    · have hd : decide (i < a.length) = false := decide_eq_false hlt
      have HV : Aside0 (sameBy hintE a b = true) := ⟨by rw [HE.out, sameBy_end (by omega) (by rw [← HL.out]; omega)]⟩
      go_wp2_with fail
      go_returns
      exact ⟨by rw [HV.out]; rfl, HBR.out⟩
    have hd : decide (i < a.length) = true := decide_eq_true hlt
    have hlt2 : i < b.length := by rw [← HL.out]; exact hlt
    have hd2 : decide (i < b.length) = true := decide_eq_true hlt2
    obtain ⟨ad, x, rfl, hx, p0, p1, p2⟩ := hint_at (Kd.C_below HA.out HBR.out) i hlt
    obtain ⟨bd, y, rfl, hy, q0, q1, q2⟩ := hint_at (Kd.C_below HB.out HBR.out) i hlt2
    have HS := Aside0.mk (sameBy_drop (e := hintE) hx hy)
    obtain ⟨a0, a1, a2⟩ := x
    obtain ⟨b0, b1, b2⟩ := y
    have key : (a0 = b0 ∧ a1 = b1 ∧ a2 = b2) ∨ (hintE ⟨a0, a1, a2⟩ ⟨b0, b1, b2⟩ = false ∧ (¬ a0 = b0 ∨ ¬ a1 = b1 ∨ ¬ a2 = b2)) := by
      by_cases k0 : a0 = b0
      · by_cases k1 : a1 = b1
        · by_cases k2 : a2 = b2
          · exact .inl ⟨k0, k1, k2⟩
          · exact .inr ⟨by unfold hintE; simp [k2], .inr (.inr k2)⟩
        · exact .inr ⟨by unfold hintE; simp [k1], .inr (.inl k1)⟩
      · exact .inr ⟨by unfold hintE; simp [k0], .inl k0⟩
    clear hx hy
    dsimp only at p0 p1 p2 q0 q1 q2
    have hu := Try.underlying31
    go_upto_region 6 with fail
    rcases key with ⟨rfl, rfl, rfl⟩ | ⟨hf, hne⟩
    · have HE2 : Aside0 (sameBy hintE a b = sameBy hintE (a.drop (i + 1)) (b.drop (i + 1))) := ⟨by rw [HE.out, HS.out, hintE_refl, Bool.true_and]⟩
      clear HS
      go_region
      all_goals
        go_wp2_with fail
        go_roundw
        case measure => simp [intOf]; omega
        case rel => exact ⟨i + 1, by go_num, by omega, HE2, ⟨below_drew HBR.out⟩⟩
    · have HV : Aside0 (sameBy hintE a b = false) := ⟨by rw [HE.out, HS.out, hf, Bool.false_and]⟩
      clear HS hf
      rcases hne with hne | hne | hne
      all_goals
        go_region
        all_goals
          go_wp2_with fail
          go_returns
          exact ⟨by rw [HV.out]; rfl, below_drew HBR.out⟩
def postE (x y : S36) : Bool := (x.f0 == y.f0) && (sameBy hintE x.f1 y.f1 && sameBy hintE x.f2 y.f2)
theorem postE_refl (x : S36) : postE x x = true := by
  unfold postE
  rw [sameBy_refl hintE_refl, sameBy_refl hintE_refl]
  simp
theorem postE_eq (a b : S36) (h : postE a b = true) : a = b := by
  obtain ⟨a0, a1, a2⟩ := a
  obtain ⟨b0, b1, b2⟩ := b
  unfold postE at h
  rw [Bool.and_eq_true, Bool.and_eq_true, beq_iff_eq] at h
  obtain ⟨h1, h2, h3⟩ := h
  dsimp only at h1 h2 h3
  rw [h1, sameBy_eq hintE_eq h2, sameBy_eq hintE_eq h3]
set_option maxRecDepth 100000 in
theorem same1_any (x y : S36) (u v : Bool) (A1 A2 B1 B2 : Option Addr) (n1 n2 m1 m2 c1 c2 d1 d2 : Nat) (w : World) (hu : u = x.f0) (hv : v = y.f0) (e1 : n1 = x.f1.length) (e2 : n2 = x.f2.length) (e3 : m1 = y.f1.length) (e4 : m2 = y.f2.length)
    (h1 : Kd.C k31 w A1 x.f1.length x.f1) (h2 : Kd.C k31 w A2 x.f2.length x.f2) (h3 : Kd.C k31 w B1 y.f1.length y.f1) (h4 : Kd.C k31 w B2 y.f2.length y.f2) (s1 : x.f1.length ≤ 1000000000000) (s2 : x.f2.length ≤ 1000000000000) :
    Calls Try.prog 82 #[.agg #[.bool u, .slice A1 n1 c1, .slice A2 n2 c2], .agg #[.bool v, .slice B1 m1 d1, .slice B2 m2 d2]] w fun e w' => e = .returned (.bool (postE x y)) ∧ Below w.heap.size w w' := by
  have HV : Aside0 (postE x y = ((u == v) && (sameBy hintE x.f1 y.f1 && sameBy hintE x.f2 y.f2))) := ⟨by rw [hu, hv]; rfl⟩
  have H1 := Aside0.mk h1
  have H2 := Aside0.mk h2
  have H3 := Aside0.mk h3
  have H4 := Aside0.mk h4
  have E1 := Aside0.mk (And.intro e1 e3)
  have E2 := Aside0.mk (And.intro e2 e4)
  clear h1 h2 h3 h4 hu hv e1 e2 e3 e4
  have huP := Try.underlying36
  go_enter Try.func82, Try.ntmps82
  go_upto_region 1 with fail
  obtain ⟨W1, hW1⟩ : ∃ W, W = w.alloc (Obj.cells #[Value.bool u, Value.slice A1 n1 c1, Value.slice A2 n2 c2] 36) := ⟨_, rfl⟩
  obtain ⟨W, hW⟩ : ∃ W, W = W1.alloc (Obj.cells #[Value.bool v, Value.slice B1 m1 d1, Value.slice B2 m2 d2] 36) := ⟨_, rfl⟩
  obtain ⟨g1, hg1⟩ : ∃ g, g = w.heap.size := ⟨_, rfl⟩
  obtain ⟨g2, hg2⟩ : ∃ g, g = w.heap.size + 1 := ⟨_, rfl⟩
  have hg3 : g2 = W1.heap.size := by rw [hg2, hW1]; simp
  rw [← hW1, ← hW, ← hg2, ← hg1]
  have HX : Aside0 (W.heap[g1]? = some (.cells #[.bool u, .slice A1 n1 c1, .slice A2 n2 c2] 36 (0, 0))) := ⟨by rw [hW, hg1]; exact blk_alloc (by rw [hW1]; exact heap_alloc_new _ _) _⟩
  have HY : Aside0 (W.heap[g2]? = some (.cells #[.bool v, .slice B1 m1 d1, .slice B2 m2 d2] 36 (0, 0))) := ⟨by rw [hW, hg3]; exact heap_alloc_new _ _⟩
  have HB : Aside0 (Below w.heap.size w W) := ⟨by rw [hW]; exact below_alloc (by rw [hW1]; exact below_alloc (Below.refl _ _) _) _⟩
  clear hW1 hW hg1 hg2 hg3
  obtain ⟨x0, x1, x2, _, _, _⟩ := blk3 HX.out
  obtain ⟨y0, y1, y2, _, _, _⟩ := blk3 HY.out
  have key : u = v ∨ (u == v) = false := by cases u <;> cases v <;> simp
  rcases key with rfl | hne
  rotate_left
  · have HV2 : Aside0 (postE x y = false) := ⟨by rw [HV.out, hne, Bool.false_and]⟩
    clear HV
    cases u <;> cases v
    all_goals first
      | (exfalso; revert hne; decide)
      | (clear hne; go_wp2_with fail; go_returns; exact ⟨by rw [HV2.out]; rfl, HB.out⟩)
  have hee : (u == u) = true := by cases u <;> rfl
  have HV2 : Aside0 (postE x y = (sameBy hintE x.f1 y.f1 && sameBy hintE x.f2 y.f2)) := ⟨by rw [HV.out, hee, Bool.true_and]⟩
  clear HV
  go_wp2_with fail
  refine (equal_any A1 B1 n1 c1 m1 d1 x.f1 y.f1 W E1.out.1 E1.out.2 (Kd.C_below H1.out HB.out) (Kd.C_below H3.out HB.out) s1).mono ?_
  rintro e w2 ⟨rfl, hB⟩
  have HB2 := Aside0.mk (below_step HB.out hB)
  have HX2 := Aside0.mk (blk_below HX.out hB)
  have HY2 := Aside0.mk (blk_below HY.out hB)
  clear hB x0 x1 x2 y0 y1 y2
  obtain ⟨x0, x1, x2, _, _, _⟩ := blk3 HX2.out
  obtain ⟨y0, y1, y2, _, _, _⟩ := blk3 HY2.out
  obtain ⟨r, hr⟩ : ∃ r, r = sameBy hintE x.f1 y.f1 := ⟨_, rfl⟩
  rw [← hr] at HV2 ⊢
  clear hr
  cases r with
  | false =>
    go_wp2_with fail
    go_returns
    exact ⟨by rw [HV2.out]; rfl, HB2.out⟩
  | true =>
    go_wp2_with fail
    refine (equal_any A2 B2 n2 c2 m2 d2 x.f2 y.f2 w2 E2.out.1 E2.out.2 (Kd.C_below H2.out HB2.out) (Kd.C_below H4.out HB2.out) s2).mono ?_
    rintro e w3 ⟨rfl, hB⟩
    have HB3 := Aside0.mk (below_step HB2.out hB)
    obtain ⟨r, hr⟩ : ∃ r, r = sameBy hintE x.f2 y.f2 := ⟨_, rfl⟩
    rw [← hr] at HV2 ⊢
    clear hr hB x0 x1 x2 y0 y1 y2
    go_wp2_with fail
    go_returns
    exact ⟨by rw [HV2.out]; rfl, HB3.out⟩
set_option maxRecDepth 100000 in
theorem eqfunc_any (A B : Option Addr) (n ca m cb : Nat) (a b : List S36) (w : World) (hn : n = a.length) (hm : m = b.length) (ha : Kd.C k36 w A a.length a) (hb : Kd.C k36 w B b.length b) (hl : Short a) :
    Calls Try.prog 81 #[.slice A n ca, .slice B m cb, .func (.func 82) #[] #[]] w fun e w' => e = .returned (.bool (sameBy postE a b)) ∧ Below w.heap.size w w' := by
  subst hn
  subst hm
  have HA := Aside0.mk ha
  have HB := Aside0.mk hb
  have HS := Aside0.mk hl
  have hl6 := hl.1
  clear ha hb hl
  go_enter Try.func81, Try.ntmps81
  by_cases hl : a.length = b.length
  rotate_left
  · have HV := Aside0.mk (sameBy_ne (e := postE) hl)
    have dl : ((a.length : Int) != (b.length : Int)) = true := by rw [bne_iff_ne]; omega
    clear hl
    go_wp2_with fail
    go_returns
    exact ⟨by rw [HV.out]; rfl, Below.refl _ _⟩
  have HL := Aside0.mk hl
  have dl : ((a.length : Int) != (b.length : Int)) = false := by rw [hl]; simp
  clear hl
  go_wp2_with fail
  go_loopw [17] (fun u17 wr => ∃ i : Nat, u17 = .int .i64 (i : Int) ∧ i ≤ a.length ∧ Aside0 (sameBy postE a b = sameBy postE (a.drop i) (b.drop i)) ∧ Aside0 (Below w.heap.size w wr)) (fun u17 _ => a.length - (intOf u17).toNat)
  case atStart => exact ⟨0, rfl, Nat.zero_le _, ⟨rfl⟩, ⟨Below.refl _ _⟩⟩
  case round =>
    obtain ⟨i, rfl, hi, HE, HBR⟩ := hrel
    by_cases hlt : i < a.length
    rotate_left
    · have hd : decide (i < a.length) = false := decide_eq_false hlt
      have HV : Aside0 (sameBy postE a b = true) := ⟨by rw [HE.out, sameBy_end (by omega) (by rw [← HL.out]; omega)]⟩
      go_wp2_with fail
      go_returns
      exact ⟨by rw [HV.out]; rfl, HBR.out⟩
    have hd : decide (i < a.length) = true := decide_eq_true hlt
    have hlt2 : i < b.length := by rw [← HL.out]; exact hlt
    have hd2 : decide (i < b.length) = true := decide_eq_true hlt2
    obtain ⟨ad, x, A1, c1, A2, c2, rfl, hx, p0, p1, p2, _, hC1, _, hC2⟩ := post_at (Kd.C_below HA.out HBR.out) i hlt
    have HX := Aside0.mk (HS.out.2 x (List.mem_of_getElem? hx))
    have HXI := Aside0.mk hx
    have HC1 := Aside0.mk hC1
    have HC2 := Aside0.mk hC2
    clear hx hC1 hC2
    have hu := Try.underlying36
    go_upto_region 6 with fail
    obtain ⟨W1, hW1⟩ : ∃ W, W = wr.alloc (Obj.cells #[Value.bool x.f0, Value.slice A1 x.f1.length c1, Value.slice A2 x.f2.length c2] 36) := ⟨_, rfl⟩
    obtain ⟨g1, hg1⟩ : ∃ g, g = wr.heap.size := ⟨_, rfl⟩
    rw [← hW1, ← hg1]
    have hBW1 : Below wr.heap.size wr W1 := by rw [hW1]; exact below_alloc (Below.refl _ _) _
    obtain ⟨bd, y, B1, d1, B2, d2, rfl, hy, q0, q1, q2, _, hD1, _, hD2⟩ := post_at (Kd.C_below HB.out (below_step HBR.out hBW1)) i hlt2
    have HD := Aside0.mk (sameBy_drop (e := postE) HXI.out hy)
    have HD1 := Aside0.mk hD1
    have HD2 := Aside0.mk hD2
    have HG0 : Aside0 (W1.heap[g1]? = some (.cells #[.bool x.f0, .slice A1 x.f1.length c1, .slice A2 x.f2.length c2] 36 (0, 0))) := ⟨by rw [hW1, hg1]; exact heap_alloc_new _ _⟩
    have HBW1 := Aside0.mk hBW1
    clear hy hD1 hD2 hBW1 hW1 hg1
    go_upto_region 7 with fail
    obtain ⟨W, hW⟩ : ∃ W, W = W1.alloc (Obj.cells #[Value.bool y.f0, Value.slice B1 y.f1.length d1, Value.slice B2 y.f2.length d2] 36) := ⟨_, rfl⟩
    obtain ⟨g2, hg2⟩ : ∃ g, g = W1.heap.size := ⟨_, rfl⟩
    rw [← hW, ← hg2]
    have HG1 : Aside0 (W.heap[g1]? = some (.cells #[.bool x.f0, .slice A1 x.f1.length c1, .slice A2 x.f2.length c2] 36 (0, 0))) := ⟨by rw [hW]; exact blk_alloc HG0.out _⟩
    have HG2 : Aside0 (W.heap[g2]? = some (.cells #[.bool y.f0, .slice B1 y.f1.length d1, .slice B2 y.f2.length d2] 36 (0, 0))) := ⟨by rw [hW, hg2]; exact heap_alloc_new _ _⟩
    have HB1W : Aside0 (Below W1.heap.size W1 W) := ⟨by rw [hW]; exact below_alloc (Below.refl _ _) _⟩
    have HBW : Aside0 (Below wr.heap.size wr W) := ⟨by rw [hW]; exact below_alloc HBW1.out _⟩
    clear hW hg2 p0 p1 p2 q0 q1 q2
    obtain ⟨x0, x1, x2, _, _, _⟩ := blk3 HG1.out
    obtain ⟨y0, y1, y2, _, _, _⟩ := blk3 HG2.out
    go_wp2_with fail
    refine (same1_any x y x.f0 y.f0 A1 A2 B1 B2 x.f1.length x.f2.length y.f1.length y.f2.length c1 c2 d1 d2 W rfl rfl rfl rfl rfl rfl (Kd.C_below HC1.out HBW.out) (Kd.C_below HC2.out HBW.out) (Kd.C_below HD1.out HB1W.out) (Kd.C_below HD2.out HB1W.out) HX.out.1 HX.out.2).mono ?_
    rintro e w2 ⟨rfl, hB⟩
    have HB2 := Aside0.mk (below_step HBR.out (below_step HBW.out hB))
    obtain ⟨r, hr⟩ : ∃ r, r = postE x y := ⟨_, rfl⟩
    rw [← hr] at HD ⊢
    clear hr hB x0 x1 x2 y0 y1 y2
    cases r with
    | false =>
      have HV : Aside0 (sameBy postE a b = false) := ⟨by rw [HE.out, HD.out, Bool.false_and]⟩
      go_wp2_with fail
      go_returns
      exact ⟨by rw [HV.out]; rfl, HB2.out⟩
    | true =>
      have HE2 : Aside0 (sameBy postE a b = sameBy postE (a.drop (i + 1)) (b.drop (i + 1))) := ⟨by rw [HE.out, HD.out, Bool.true_and]⟩
      go_wp2_with fail
      go_roundw
      case measure => simp [intOf]; omega
      case rel => exact ⟨i + 1, by go_num, by omega, HE2, HB2⟩
theorem Same_any (A B : Option Addr) (n ca m cb : Nat) (a b : List S36) (w : World) (hn : n = a.length) (hm : m = b.length) (ha : Kd.C k36 w A a.length a) (hb : Kd.C k36 w B b.length b) (hl : Short a) :
    Calls Try.prog 34 #[.slice A n ca, .slice B m cb] w fun e w' => e = .returned (.bool (sameBy postE a b)) ∧ Below w.heap.size w w' := by
  have H := Aside0.mk (eqfunc_any A B n ca m cb a b w hn hm ha hb hl)
  clear ha hb hn hm
  go_enter Try.func34, Try.ntmps34
  go_wp2_with fail
  refine H.out.mono ?_
  rintro e w2 ⟨rfl, hB⟩
  clear H
  go_wp2_with fail
  go_returns
  exact ⟨rfl, hB⟩
end Go.Proofs.Ytjnceoohlcchnaa.Print

/-! The law of shorter ways, walked. -/
namespace Go.Proofs.Ytjnceoohlcchnaa.Print
open Go Go.RowKit Go.Deep Go.Proofs.YtjnceoohlcchnaaW.PrintWords Go.Proofs.YtjnceoohlcchnaaW.PrintLast Go.Proofs.YtjnceoohlcchnaaW.PrintMore

set_option maxRecDepth 100000 in
set_option maxHeartbeats 16000000 in
theorem again_walk (A : Option Addr) (c : Nat) (m : List S36) (place other oid : Int) (w : World) (hr : Kd.C k36 w A m.length m) (hc : m.length ≤ c) (hf : FitP m) :
    Calls Try.prog 6 #[.slice A m.length c, .int .i64 place, .int .i64 other, .int .i64 oid] w fun e w' => e = .returned (.bool true) ∧ Below w.heap.size w w' := by
  have HR := Aside0.mk hr
  have HF := Aside0.mk hf
  clear hr hf
  have hu := Try.underlying31
  go_enter Try.func6, Try.ntmps6
  go_wp2_with fail
  refine (awake_any w).mono ?_
  rintro e w1 ⟨rfl, hB⟩
  have HB1 := Aside0.mk hB
  clear hB
  go_wp2_with fail
  refine (few_any A m.length c m w1 rfl (Kd.C_below HR.out HB1.out) hc HF.out).mono ?_
  rintro e w2 ⟨rfl, hB⟩
  have HB2 := Aside0.mk (below_step HB1.out hB)
  clear hB HB1
  cases hfw : fewB m with
  | false =>
    clear hfw
    go_wp2_with fail
    go_returns
    exact ⟨rfl, HB2.out⟩
  | true =>
  have HS := Aside0.mk (few_short hfw)
  have hml : m.length ≤ 1000000 := HS.out.1
  clear hfw
  go_wp2_with fail
  refine (Search_any A m.length c m place oid w2 rfl (Kd.C_below HR.out HB2.out) hc HS.out).mono ?_
  rintro e w3 ⟨A3, c3, rfl, hc3, hC3, hB⟩
  have HB3 := Aside0.mk (below_step HB2.out hB)
  clear hB
  by_cases h0 : (searchF m place oid).2.2.2 = 0
  rotate_left
  · obtain ⟨gc, hgc⟩ : ∃ gc, gc = (searchF m place oid).2.2.2 := ⟨_, rfl⟩
    rw [← hgc] at h0 ⊢
    have dg : (gc != 0) = true := by rw [bne_iff_ne]; exact h0
    simp only [hintV]
    clear hgc h0 hc3 hC3
    go_wp2_with fail
    go_returns
    exact ⟨rfl, below_alloc HB3.out _⟩
  obtain ⟨n, h, s1, s2, hs1, hs2, hs3, hcn, hoth⟩ := again other h0
  rw [hs1] at hc3 hC3 ⊢
  dsimp only at hc3 hC3 ⊢
  have HC3 := Aside0.mk hC3
  have HS2 := Aside0.mk hs2
  have HCN := Aside0.mk hcn
  have HSN := Aside0.mk (short_ok hcn)
  have HO := Aside0.mk hoth
  clear h0 hs1 hs2 hC3 hcn hoth
  simp only [hintV]
  have d2 : decide (2 < s2) = false := decide_eq_false (by omega)
  clear hs3
  obtain ⟨w3', hw3⟩ : ∃ W, W = w3.alloc (Obj.cells #[Value.int IntKind.i64 h.f0, Value.int IntKind.i64 h.f1, Value.int IntKind.i64 h.f2] 31) := ⟨_, rfl⟩
  have HB3' : Aside0 (Below w3.heap.size w3 w3') := ⟨by rw [hw3]; exact below_alloc (Below.refl _ _) _⟩
  go_upto_region 5 with fail
  rw [← hw3]
  obtain ⟨g11, hg11⟩ : ∃ g, g = w3.heap.size := ⟨_, rfl⟩
  rw [← hg11]
  clear hw3 hg11
  go_wp2_with fail
  refine (Search_any A3 n.length c3 n place oid w3' rfl (Kd.C_below HC3.out HB3'.out) hc3 HSN.out).mono ?_
  rintro e w4 ⟨A4, c4, rfl, hc4, hC4, hB⟩
  rw [HS2.out] at hc4 hC4 ⊢
  dsimp only at hc4 hC4 ⊢
  simp only [hintV]
  obtain ⟨w4', hw4⟩ : ∃ W, W = w4.alloc (Obj.cells #[Value.int IntKind.i64 h.f0, Value.int IntKind.i64 h.f1, Value.int IntKind.i64 h.f2] 31) := ⟨_, rfl⟩
  obtain ⟨g15, hg15⟩ : ∃ g, g = w4.heap.size := ⟨_, rfl⟩
  have hBa : Below w4.heap.size w4 w4' := by rw [hw4]; exact below_alloc (Below.refl _ _) _
  have HC4 := Aside0.mk (Kd.C_below hC4 hBa)
  have HB34 := Aside0.mk (below_step HB3'.out (below_step hB hBa))
  have HB4 := Aside0.mk (below_step HB3.out HB34.out)
  have HC34 := Aside0.mk (Kd.C_below HC3.out HB34.out)
  clear hC4 hB hBa HS2
  go_upto_region 8 with fail
  rw [← hw4, ← hg15]
  clear hw4 hg15
  go_wp2_with fail
  refine (check_any A3 n.length c3 n w4' rfl HC34.out hc3 HSN.out).mono ?_
  rintro e w5 ⟨rfl, hB⟩
  have hcc : checkC n = 0 := by unfold checkC; rw [if_pos HCN.out]
  rw [hcc]
  have HB5 := Aside0.mk (below_step HB4.out hB)
  have HC5 := Aside0.mk (Kd.C_below HC34.out hB)
  have HD5 := Aside0.mk (Kd.C_below HC4.out hB)
  clear hB hcc HC34 HC4
  go_wp2_with fail
  refine (Same_any A3 A4 n.length c3 n.length c4 n n w5 rfl rfl HC5.out HD5.out HSN.out).mono ?_
  rintro e w6 ⟨rfl, hB⟩
  rw [sameBy_refl postE_refl]
  have HB6 := Aside0.mk (below_step HB5.out hB)
  have HC6 := Aside0.mk (Kd.C_below HC5.out hB)
  clear hB HC5 HD5
  go_wp2_with fail
  refine (Search_any A m.length c m other oid w6 rfl (Kd.C_below HR.out HB6.out) hc HS.out).mono ?_
  rintro e w7 ⟨A7, c7, rfl, _, _, hB⟩
  obtain ⟨r1, hr1⟩ : ∃ r, r = searchF m other oid := ⟨_, rfl⟩
  rw [← hr1] at HO ⊢
  clear hr1
  obtain ⟨l7, h7, s7, e7⟩ := r1
  dsimp only at HO ⊢
  simp only [hintV]
  obtain ⟨w7', hw7⟩ : ∃ W, W = w7.alloc (Obj.cells #[Value.int IntKind.i64 h7.f0, Value.int IntKind.i64 h7.f1, Value.int IntKind.i64 h7.f2] 31) := ⟨_, rfl⟩
  obtain ⟨g19, hg19⟩ : ∃ g, g = w7.heap.size := ⟨_, rfl⟩
  have hB67 : Below w6.heap.size w6 w7' := by rw [hw7]; exact below_alloc hB _
  have HB7 := Aside0.mk (below_step HB6.out hB67)
  have HC7 := Aside0.mk (Kd.C_below HC6.out hB67)
  clear hB hB67 HC6
  go_upto_region 11 with fail
  rw [← hw7, ← hg19]
  clear hw7 hg19
  go_wp2_with fail
  refine (Search_any A3 n.length c3 n other oid w7' rfl HC7.out hc3 HSN.out).mono ?_
  rintro e w8 ⟨A8, c8, rfl, _, _, hB⟩
  obtain ⟨r1, hr1⟩ : ∃ r, r = searchF n other oid := ⟨_, rfl⟩
  rw [← hr1] at HO ⊢
  clear hr1
  obtain ⟨l8, h8, s8, e8⟩ := r1
  dsimp only at HO ⊢
  simp only [hintV]
  obtain ⟨w8', hw8⟩ : ∃ W, W = w8.alloc (Obj.cells #[Value.int IntKind.i64 h8.f0, Value.int IntKind.i64 h8.f1, Value.int IntKind.i64 h8.f2] 31) := ⟨_, rfl⟩
  have HB8 : Aside0 (Below w.heap.size w w8') := ⟨below_step HB7.out (by rw [hw8]; exact below_alloc hB _)⟩
  clear hB
  go_upto_region 12 with fail
  rw [← hw8]
  clear hw8
  by_cases k1 : e7 = 0
  rotate_left
  · have q1 : (e7 != 0) = true := by rw [bne_iff_ne]; exact k1
    clear HO k1
    go_wp2_with fail
    go_returns
    exact ⟨rfl, HB8.out⟩
  subst k1
  rcases HO.out with k | ⟨k, k2⟩ | k
  · exact absurd rfl k
  · subst k
    have q2 : decide (s8 ≤ s7) = true := decide_eq_true k2
    clear HO k2
    go_wp2_with fail
    go_returns
    exact ⟨rfl, HB8.out⟩
  · subst k
    clear HO
    go_wp2_with fail
    go_returns
    exact ⟨rfl, HB8.out⟩
end Go.Proofs.Ytjnceoohlcchnaa.Print

/-! A map, or hints, handed in: what the row says of it, as a list. -/
namespace Go.Proofs.Ytjnceoohlcchnaa.Print
open Go Go.ChangeShapes Go.WideShapes Go.ChangeAt Go.RowKit Go.Deep Go.Proofs.YtjnceoohlcchnaaW.PrintWords Go.Proofs.YtjnceoohlcchnaaW.PrintLast Go.Proofs.YtjnceoohlcchnaaW.PrintMore

theorem weights_all {H : Type} {P : Program} {e : TypeId} : ∀ {l : List (DataW H)} {d : DataW H}, d ∈ l → ∀ n ∈ d.weights P e, n ∈ DataW.weightsAll P e l
  | [], _, h, _, _ => by cases h
  | a :: l, d, h, n, hn => by
    rw [DataW.weightsAll, List.mem_append]
    rcases List.mem_cons.1 h with rfl | h
    · exact .inl hn
    · exact .inr (weights_all h n hn)
section
variable {H : Type} {enc : TypeId × Value → H} {W : World} {held : Bool}
set_option maxRecDepth 100000 in
/-- a row of structs of three fields of one cell each -/
theorem open_triples {t e : TypeId} {f0 f1 f2 : Field} {fuel : Nat} {A : Option Addr} {len cap : Nat} {d : DataW H} {ps : List MemPlace} (ht : Try.prog.underlying t = some (.slice e)) (he : Try.prog.underlying e = some (.struct #[f0, f1, f2]))
    (ce : Try.prog.cellsOf e = 3) (o0 : f0.offset = 0) (o1 : f1.offset = 1) (o2 : f2.offset = 2) (c0 : Try.prog.cellsOf f0.type = 1) (c1 : Try.prog.cellsOf f1.type = 1) (c2 : Try.prog.cellsOf f2.type = 1)
    (h : DataW.trod enc Try.prog W 0 (fun _ => true) held fuel t [.slice A len cap] = some (d, ps)) :
    (A = none ∧ len = 0 ∧ cap = 0) ∨ ∃ (a : Addr) (D : Nat → DataW H) (rest : List (DataW H)), A = some a ∧ len ≤ cap ∧ cap ≤ maxLen ∧ d = .slice ((List.range len).map D) rest ∧
      ∀ i, i < len → ∃ (k : Nat) (v0 v1 v2 : Value) (y0 y1 y2 : DataW H × List MemPlace), W.cell? (a.add (i * 3)) = some v0 ∧ W.cell? (a.add (i * 3 + 1)) = some v1 ∧ W.cell? (a.add (i * 3 + 2)) = some v2 ∧ D i = .agg [y0.1, y1.1, y2.1] ∧
        DataW.trod enc Try.prog W 0 (fun _ => true) held k f0.type [v0] = some y0 ∧ DataW.trod enc Try.prog W 0 (fun _ => true) held k f1.type [v1] = some y1 ∧ DataW.trod enc Try.prog W 0 (fun _ => true) held k f2.type [v2] = some y2 := by
  rcases open_slice ht h with ⟨hcs, _⟩ | ⟨a, l', c', m, n, D, Pl, hcs, _, hl, hm, hmm, hx, hel⟩
  · cases hcs
    exact .inl ⟨rfl, rfl, rfl⟩
  · cases hcs
    simp only [if_true] at hmm
    refine .inr ⟨a, D, _, rfl, hl, hm, (Prod.mk.inj hx).1, fun i hi => ?_⟩
    obtain ⟨cs', q1, q2⟩ := hel i (by omega)
    rw [ce] at q1
    obtain ⟨_, hlen, hcell⟩ := World.cells?_some q1
    obtain ⟨xs, k, _, hxy, _, hxl, hf⟩ := DataW.trod_struct he q2
    match xs, hxl, cs', hlen with
    | [y0, y1, y2], _, [v0, v1, v2], _ =>
      have g0 := hf 0 f0 rfl
      have g1 := hf 1 f1 rfl
      have g2 := hf 2 f2 rfl
      simp [o0, o1, o2, c0, c1, c2] at g0 g1 g2
      have e0 := hcell 0 (by omega)
      have e1 := hcell 1 (by omega)
      have e2 := hcell 2 (by omega)
      rw [Go.Deep.add_add] at e0 e1 e2
      simp only [Prod.mk.injEq] at hxy
      exact ⟨k, v0, v1, v2, y0, y1, y2, by simpa using e0, by simpa using e1, by simpa using e2, by simpa using hxy.1, g0, g1, g2⟩
set_option maxRecDepth 100000 in
theorem lift_hints {fuel : Nat} {a : Option Addr} {len cap : Nat} {d : DataW H} {ps : List MemPlace} (h : DataW.trod enc Try.prog W 0 (fun _ => true) held fuel 34 [.slice a len cap] = some (d, ps)) (hz : ∀ n ∈ d.weights Try.prog 34, n ≤ reachBytes) :
    ∃ l : List S31, l.length = len ∧ len ≤ cap ∧ Kd.C k31 W a len l ∧ len ≤ 140737488355328 := by
  rcases open_triples Try.underlying34 Try.underlying31 (by kernel_rfl) rfl rfl rfl (by kernel_rfl) (by kernel_rfl) (by kernel_rfl) h with ⟨rfl, rfl, rfl⟩ | ⟨ad, D, rest, rfl, hl, hm, rfl, hel⟩
  · exact ⟨[], rfl, Nat.le_refl _, Kd.C_nil _ _, by simp⟩
  · rw [DataW.weights, Try.underlying34] at hz
    have hsz := hz _ (List.mem_cons_self ..)
    rw [show Try.prog.bytesOf 31 = 24 from by kernel_rfl] at hsz
    simp at hsz
    have each : ∀ i, i < len → ∃ y : S31, W.cell? (ad.add (i * 3)) = some (.int .i64 y.f0) ∧ W.cell? (ad.add (i * 3 + 1)) = some (.int .i64 y.f1) ∧ W.cell? (ad.add (i * 3 + 2)) = some (.int .i64 y.f2) := by
      intro i hi
      obtain ⟨k, v0, v1, v2, y0, y1, y2, q0, q1, q2, _, g0, g1, g2⟩ := hel i hi
      obtain ⟨z0, e0, _, _⟩ := DataW.trod_int Try.underlying3 g0
      obtain ⟨z1, e1, _, _⟩ := DataW.trod_int Try.underlying3 g1
      obtain ⟨z2, e2, _, _⟩ := DataW.trod_int Try.underlying3 g2
      simp at e0 e1 e2
      subst e0 e1 e2
      exact ⟨⟨z0, z1, z2⟩, q0, q1, q2⟩
    haveI : Inhabited S31 := ⟨⟨0, 0, 0⟩⟩
    obtain ⟨y, hy⟩ := choose_lt each
    refine ⟨(List.range len).map y, by simp, hl, ⟨by simp, by unfold maxLen at hm; omega, fun _ => ⟨ad, rfl, fun j p hj => ?_⟩⟩, by unfold reachBytes at hsz; omega⟩
    rw [List.getElem?_map] at hj
    obtain ⟨i, hi, rfl⟩ := Option.map_eq_some_iff.1 hj
    obtain ⟨hjl, hji⟩ := List.getElem?_eq_some_iff.1 hi
    simp at hjl hji
    subst hji
    obtain ⟨e0, e1, e2⟩ := hy j hjl
    refine ⟨_, rfl, k31_mk W (y j), fun i u hu => ?_⟩
    match i, hu with
    | 0, hu => cases hu; exact e0
    | 1, hu => cases hu; exact e1
    | 2, hu => cases hu; exact e2
set_option maxRecDepth 100000 in
theorem lift_posts {a : Option Addr} {len cap : Nat} {d : DataW H} {ps : List MemPlace} (h : DataW.Trod enc Try.prog W 0 (fun _ => true) held 22 (.slice a len cap) d ps) (hz : ∀ n ∈ d.weights Try.prog 22, n ≤ reachBytes) :
    ∃ l : List S36, l.length = len ∧ len ≤ cap ∧ Kd.C k36 W a len l ∧ len ≤ 140737488355328 ∧ ∀ x ∈ l, x.f1.length ≤ 140737488355328 ∧ x.f2.length ≤ 140737488355328 := by
  obtain ⟨fuel, hf⟩ := h
  rcases open_triples Try.underlying22 Try.underlying36 (by kernel_rfl) rfl rfl rfl (by kernel_rfl) (by kernel_rfl) (by kernel_rfl) (show DataW.trod enc Try.prog W 0 (fun _ => true) held fuel 22 [.slice a len cap] = some (d, ps) from by simpa [Value.cells] using hf) with ⟨rfl, rfl, rfl⟩ | ⟨ad, D, rest, rfl, hl, hm, rfl, hel⟩
  · exact ⟨[], rfl, Nat.le_refl _, Kd.C_nil _ _, by simp, by simp⟩
  · rw [DataW.weights, Try.underlying22] at hz
    have hsz := hz _ (List.mem_cons_self ..)
    rw [show Try.prog.bytesOf 36 = 56 from by kernel_rfl] at hsz
    simp at hsz
    have each : ∀ i, i < len → ∃ y : S36 × (Option Addr × Nat) × (Option Addr × Nat), W.cell? (ad.add (i * 3)) = some (.bool y.1.f0) ∧ W.cell? (ad.add (i * 3 + 1)) = some (.slice y.2.1.1 y.1.f1.length y.2.1.2) ∧ W.cell? (ad.add (i * 3 + 2)) = some (.slice y.2.2.1 y.1.f2.length y.2.2.2) ∧
        y.1.f1.length ≤ y.2.1.2 ∧ Kd.C k31 W y.2.1.1 y.1.f1.length y.1.f1 ∧ y.1.f2.length ≤ y.2.2.2 ∧ Kd.C k31 W y.2.2.1 y.1.f2.length y.1.f2 ∧ y.1.f1.length ≤ 140737488355328 ∧ y.1.f2.length ≤ 140737488355328 := by
      intro i hi
      obtain ⟨k, v0, v1, v2, y0, y1, y2, q0, q1, q2, hD, g0, g1, g2⟩ := hel i hi
      obtain ⟨b, e0, _⟩ := DataW.trod_bool Try.underlying4 g0
      simp at e0
      subst e0
      have hin : ∀ n ∈ (D i).weights Try.prog 36, n ≤ reachBytes := fun n hn => hz n (List.mem_cons_of_mem _ (List.mem_append_left _ (weights_all (d := D i) (List.mem_map.2 ⟨i, List.mem_range.2 hi, rfl⟩) n hn)))
      rw [hD, DataW.weights, Try.underlying36] at hin
      have hin2 : ∀ n ∈ DataW.weightsEach Try.prog [4, 34, 34] [y0.1, y1.1, y2.1], n ≤ reachBytes := hin
      have hw1 : ∀ n ∈ y1.1.weights Try.prog 34, n ≤ reachBytes := fun n hn => hin2 n (by simp [DataW.weightsEach, hn])
      have hw2 : ∀ n ∈ y2.1.weights Try.prog 34, n ≤ reachBytes := fun n hn => hin2 n (by simp [DataW.weightsEach, hn])
      have s1 : ∃ A n c, v1 = .slice A n c := by
        rcases open_slice Try.underlying34 g1 with ⟨hcs, _⟩ | ⟨a, l', c', _, _, _, _, hcs, _⟩
        · cases hcs; exact ⟨_, _, _, rfl⟩
        · cases hcs; exact ⟨_, _, _, rfl⟩
      have s2 : ∃ A n c, v2 = .slice A n c := by
        rcases open_slice Try.underlying34 g2 with ⟨hcs, _⟩ | ⟨a, l', c', _, _, _, _, hcs, _⟩
        · cases hcs; exact ⟨_, _, _, rfl⟩
        · cases hcs; exact ⟨_, _, _, rfl⟩
      obtain ⟨A1, n1, c1, rfl⟩ := s1
      obtain ⟨A2, n2, c2, rfl⟩ := s2
      obtain ⟨l1, z1, b1, C1, w1⟩ := lift_hints (d := y1.1) (ps := y1.2) g1 hw1
      obtain ⟨l2, z2, b2, C2, w2⟩ := lift_hints (d := y2.1) (ps := y2.2) g2 hw2
      subst z1 z2
      exact ⟨(⟨b, l1, l2⟩, (A1, c1), (A2, c2)), q0, q1, q2, b1, C1, b2, C2, w1, w2⟩
    haveI : Inhabited (S36 × (Option Addr × Nat) × (Option Addr × Nat)) := ⟨(⟨false, [], []⟩, (none, 0), (none, 0))⟩
    obtain ⟨y, hy⟩ := choose_lt each
    refine ⟨(List.range len).map fun i => (y i).1, by simp, hl, ⟨by simp, by unfold maxLen at hm; omega, fun _ => ⟨ad, rfl, fun j p hj => ?_⟩⟩, by unfold reachBytes at hsz; omega, fun x hx => ?_⟩
    · rw [List.getElem?_map] at hj
      obtain ⟨i, hi, rfl⟩ := Option.map_eq_some_iff.1 hj
      obtain ⟨hjl, hji⟩ := List.getElem?_eq_some_iff.1 hi
      simp at hjl hji
      subst hji
      obtain ⟨e0, e1, e2, b1, C1, b2, C2, _, _⟩ := hy j hjl
      refine ⟨_, rfl, k36_mk W (y j).1 b1 C1 b2 C2, fun i u hu => ?_⟩
      match i, hu with
      | 0, hu => cases hu; exact e0
      | 1, hu => cases hu; exact e1
      | 2, hu => cases hu; exact e2
    · obtain ⟨i, hi, rfl⟩ := List.mem_map.1 hx
      have := hy i (List.mem_range.1 hi)
      exact this.2.2.2.2.2.2.2
end
end Go.Proofs.Ytjnceoohlcchnaa.Print

namespace Go.Proofs.Ytjnceoohlcchnaa.findAgain
open Go Go.ChangeShapes Go.WideShapes Go.ChangeAt Go.RowKit Go.Proofs.Ytjnceoohlcchnaa.Print
open Go.Proofs.YtjnceoohlcchnaaW.PrintWords
theorem own : ownKnob Try.prog.godebug = none := by kernel_rfl
theorem laidOut : laidOutB Try.prog = true := by kernel_rfl

theorem small {H : Type} {ts : List TypeId} {ds : List (DataW H)} (hsz : (DataW.weightsEach Try.prog ts ds).all (· ≤ reachBytes) = true) {j : Nat} {t : TypeId} {d : DataW H} (ht : ts[j]? = some t) (hd : ds[j]? = some d) : ∀ n ∈ d.weights Try.prog t, n ≤ reachBytes := by
  intro n hn
  have := List.all_eq_true.1 hsz _ (DataW.weights_mem_each ht hd n hn)
  simpa using this


set_option maxRecDepth 100000 in
theorem lifted (os : Os) (started : os.Started) (H : Type) (enc : TypeId × Value → H) :
    ReturnsInHanded {} Try.checked os 6 .any (Rows.findAgainSpec.pre6 enc Try.prog Try.f6 Rows.findAgainRow.domain false) (Rows.findAgainSpec.post enc Try.prog Try.f6 false true false false) := by
  refine returnsInHanded_of_change_sized (C := Try.checked) own started (by kernel_rfl) Try.func6
    (ChangeSpec.witness6 (enc := enc) (C := Try.checked) false ⟨#[], #[.slice none 0 0, .int .i64 0, .int .i64 0, .int .i64 0], []⟩ 8 (by kernel_rfl) (by kernel_rfl) (by kernel_rfl) (by kernel_rfl)) ?_
  intro W base args ds gs before hval0 hW hcnd hsz0 _
  have hsz : (DataW.weightsEach Try.prog (Try.f6.params.toList ++ Rows.findAgainSpec.plain.varTypes Try.prog) (ds ++ gs)).all (· ≤ reachBytes) = true := hsz0
  have hval : ∀ (j : Nat) t v, Try.f6.params[j]? = some t → args[j]? = some v → Value.okWide Try.prog W .any base t v := hval0
  have hW' := hW
  obtain ⟨p, q, hA0, hV, rfl, hfz, hnd⟩ := hW
  have hA : DataW.TrodAll enc Try.prog W 0 (fun _ => true) true Try.f6.params.toList args.toList ds p := hA0
  rw [Try.params6] at hA hval hsz
  obtain ⟨v0, vs0, d0, ds0, p0, q0, hargs, rfl, rfl, h0, r0⟩ := trodAll_cons hA
  obtain ⟨v1, vs1, d1, ds1, p1, q1, rfl, rfl, rfl, h1, r1⟩ := trodAll_cons r0
  obtain ⟨v2, vs2, d2, ds2, p2, q2, rfl, rfl, rfl, h2, r2⟩ := trodAll_cons r1
  obtain ⟨v3, vs3, d3, ds3, p3, q3, rfl, rfl, rfl, h3, r3⟩ := trodAll_cons r2
  obtain ⟨rfl, rfl, rfl⟩ := trodAll_nil r3
  obtain rfl : args = #[v0, v1, v2, v3] := by cases args; simp_all
  obtain ⟨rfl, rfl⟩ := trodVars_none hV
  obtain ⟨a0, len0, cap0, rfl⟩ := okWide_slice Try.underlying22 (hval 0 22 v0 rfl rfl)
  obtain ⟨a1, rfl, rfl, rfl, w1⟩ := open_int Try.underlying3 (hval 1 3 v1 rfl rfl) h1
  obtain ⟨a2, rfl, rfl, rfl, w2⟩ := open_int Try.underlying3 (hval 2 3 v2 rfl rfl) h2
  obtain ⟨a3, rfl, rfl, rfl, w3⟩ := open_int Try.underlying3 (hval 3 3 v3 rfl rfl) h3
  have k0 := h0
  have lt0 : ∀ x ∈ p0, x.block < W.heap.size := by obtain ⟨m, hm⟩ := k0; exact DataW.trod_lt m _ _ _ hm
  obtain ⟨l0, e0, hc0, hr0, hz0, hw0⟩ := lift_posts h0 (small hsz (j := 0) rfl rfl)
  subst e0
  clear hA0 hval0 hsz0 hsz
  refine (again_walk a0 cap0 l0 a1 a2 a3 W hr0 hc0 hw0).mono fun e W' ⟨he, bel⟩ => ?_
  subst he
  exact ⟨_, rfl, _, _, _, [], _, [], hW', trodAll_mk1 (shut_bool Try.underlying4 _), (trodAll_cons_mk (Below.trod laidOut (by kernel_rfl) (of_decide_eq_true (by kernel_rfl)) k0 bel lt0) (trodAll_cons_mk (shut_int Try.underlying3 w1) (trodAll_cons_mk (shut_int Try.underlying3 w2) (trodAll_cons_mk (shut_int Try.underlying3 w3) trodAll_mk0)))), rfl, bel.frame _, fun h => by cases h⟩
theorem over : Rows.findAgainRow.holds Try.pinned (OpenSpec.ofChange Rows.findAgainSpec) :=
  OpenClaim.holds_of_wide 6 Try.f6 rfl rfl rfl rfl rfl rfl rfl ⟨rfl, rfl, rfl, rfl, rfl⟩ rfl rfl rfl rfl rfl (by kernel_rfl) Try.func6 (by kernel_rfl)
    (of_decide_eq_true (by kernel_rfl)) (by unfold Func.isWrapper; first | (rw [if_pos (by decide +kernel)]; kernel_rfl) | (rw [if_neg (by decide +kernel)]; exact ⟨rfl, rfl⟩))
    (fun os started H enc _ => lifted os started H enc)
theorem proved : Rows.FindAgainSaid := over
#print axioms proved
end Go.Proofs.Ytjnceoohlcchnaa.findAgain
namespace Go.Proofs.Ytjnceoohlcchnaa
/-- The row, under a short name, for the claim. -/
theorem findAgain_holds : Rows.FindAgainSaid := findAgain.proved
end Go.Proofs.Ytjnceoohlcchnaa
