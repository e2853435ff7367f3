/- FindValid: for every number of places, list of deeds, place and object the statement answers true, and all read afterwards as before; without condition. -/
import Derived.Test.YtjnceoohlcchnaaRI
import Derived.Test.YtjnceoohlcchnaaRG
import Derived.Test.YtjnceoohlcchnaaRJ
import Derived.Test.YtjnceoohlcchnaaRH
import Derived.Test.YtjnceoohlcchnaaR0
import Derived.Test.YtjnceoohlcchnaaRC
import Derived.Test.YtjnceoohlcchnaaRD
import Derived.Test.YtjnceoohlcchnaaRE
import Derived.Test.YtjnceoohlcchnaaRF
import Derived.Deep.Strs
import Derived.Lib.LaidTab
import Derived.Test.YtjnceoohlcchnaaRows
import Derived.WalkKit
import Derived.ProofKit
import Derived.OpenShut
import Derived.ShutString
import Derived.ChangeOld
import Derived.Below
import Derived.SizedLaws
set_option linter.unusedVariables false
set_option linter.unusedSimpArgs false
/-! what a search and a route find, as the law says it -/
namespace Go.Proofs.Ytjnceoohlcchnaa.Print
open Go Go.RowKit Go.Deep Go.Proofs.YtjnceoohlcchnaaW.PrintWords Go.Proofs.YtjnceoohlcchnaaW.PrintLast Go.Proofs.YtjnceoohlcchnaaW.PrintMore
theorem post_mem (l : List S36) (p oid : Int) (h : atB (postA l p).f2 oid = true) : postA l p ∈ l := by
  unfold postA at h ⊢
  rw [List.getD_eq_getElem?_getD] at h ⊢
  cases hx : l[p.toNat]? with
  | none => rw [hx] at h; unfold atB at h; simp at h
  | some x => exact List.mem_of_getElem? hx
theorem post_mem1 (l : List S36) (p oid : Int) (h : atB (postA l p).f1 oid = true) : postA l p ∈ l := by
  unfold postA at h ⊢
  rw [List.getD_eq_getElem?_getD] at h ⊢
  cases hx : l[p.toNat]? with
  | none => rw [hx] at h; unfold atB at h; simp at h
  | some x => exact List.mem_of_getElem? hx
theorem steps_rho (l : List S36) (oid : Int) : ∀ (f : Nat) (p t : Int), (stepsR (nxH l oid) f p t).length ≤ rho l oid t + 1
  | 0, p, t => Nat.zero_le _
  | f + 1, p, t => by
    unfold stepsR
    by_cases h : (nxH l oid p t).1.2 = true
    · rw [if_pos h]
      have ih := steps_rho l oid f (nxH l oid p t).1.1 (nxH l oid p t).2
      unfold nxH at h
      by_cases h1 : atB (postA l p).f1 oid = true
      · rw [if_pos h1] at h; cases h
      rw [if_neg h1] at h
      by_cases h2 : (atB (postA l p).f2 oid && decide (t < (lookL (postA l p).f2 oid).f2)) = true
      · have e : (nxH l oid p t).2 = (lookL (postA l p).f2 oid).f2 := by
          unfold nxH
          rw [if_neg h1, if_pos h2]
        have hr := rho_lt (t := t) (post_mem l p oid (by rw [Bool.and_eq_true] at h2; exact h2.1)) (show newer oid t _ = true from h2)
        rw [← e] at hr
        rw [List.length_cons]
        omega
      · rw [if_neg h2] at h; cases h
    · rw [if_neg h]
      simp
theorem follow_len (l : List S36) (oid p : Int) : (followL l oid p).length ≤ l.length + 1 :=
  Nat.le_trans (steps_rho l oid _ p (-1)) (Nat.succ_le_succ (rho_le l oid (-1)))
theorem ask_le (place hp : Int) : ∀ (m p : Nat) (f : Bool) (s : Nat), askN place hp m p f s ≤ s + m
  | 0, _, _, s => Nat.le_refl _
  | m + 1, p, f, s => by
    unfold askN
    split
    · omega
    · split
      · have := ask_le place hp m (p + 1) f s; omega
      · have := ask_le place hp m (p + 1) ((p : Int) == hp) (s + 1); omega
theorem ask_lt (hp : Int) (q : Nat) : ∀ (m p : Nat) (f : Bool) (s : Nat), p ≤ q → q < p + m → askN (q : Int) hp m p f s < s + m
  | 0, p, _, s, h1, h2 => by omega
  | m + 1, p, f, s, h1, h2 => by
    unfold askN
    split
    · omega
    · split
      · have := ask_le (q : Int) hp m (p + 1) f s; omega
      · next h =>
        have hne : p ≠ q := fun e => h (by rw [e]; simp)
        have := ask_lt hp q m (p + 1) ((p : Int) == hp) (s + 1) (by omega) (by omega); omega
theorem ask_found (place hp : Int) (m p s : Nat) : askN place hp m p true s = s := by
  cases m with
  | zero => rfl
  | succ m => unfold askN; rw [if_pos rfl]
theorem where_mem {l : List S36} {oid : Int} {x : S36} (hx : x ∈ l) (h : atB x.f1 oid = true) : (whereL l oid).2 = true := by
  cases hb : (whereL l oid).2 with
  | true => rfl
  | false =>
    have := where_none hb x hx
    rw [h] at this; cases this
/-- what a search tells, where all is right -/
theorem search_found {l : List S36} {oid place : Int} (hc : checkF l = true) (ho : 1 ≤ oid) (hp : 0 ≤ place ∧ place < l.length) :
    (((postA l place).f0 && !((((searchF l place oid).2.2.2 == 0) == (whereL l oid).2))) && !((searchF l place oid).2.2.2 == 2)) = false ∧
    ((searchF l place oid).2.2.2 = 0 → (whereL l oid).2 = true ∧ (searchF l place oid).2.1 = (whereL l oid).1 ∧ 0 ≤ (searchF l place oid).2.2.1 ∧ (searchF l place oid).2.2.1 ≤ 2 * (l.length : Int)) := by
  have hg := given_of (l := l) (ok := decide (1 ≤ oid)) (ps := [place]) hc (decide_eq_true ho) (fun p hm => by rw [List.mem_singleton] at hm; rw [hm]; exact hp)
  unfold searchF
  rw [if_pos hg]
  by_cases h1 : (postA l place).f0 = true
  rotate_left
  · rw [if_neg h1]
    have : (postA l place).f0 = false := by simpa using h1
    rw [this]
    exact ⟨rfl, fun h => by cases h⟩
  rw [if_pos h1, h1]
  by_cases h2 : (whereL l oid).2 = true
  rotate_left
  · rw [if_neg h2]
    have : (whereL l oid).2 = false := by simpa using h2
    rw [this]
    exact ⟨rfl, fun h => by cases h⟩
  rw [if_pos h2, h2]
  by_cases h3 : ((whereL l oid).1.f1 == place) = true
  · rw [if_pos h3]
    exact ⟨rfl, fun _ => ⟨rfl, rfl, Int.le_refl _, by show (0 : Int) ≤ 2 * (l.length : Int); omega⟩⟩
  rw [if_neg h3]
  cases ht : tellsF (whereL l oid).1 (place :: followL l oid place) l with
  | none => exact ⟨rfl, fun h => by cases h⟩
  | some r =>
    refine ⟨rfl, fun _ => ⟨rfl, rfl, Int.natCast_nonneg _, ?_⟩⟩
    show ((askN place (whereL l oid).1.f1 l.length 0 (foundB l oid (followL l oid place)) (followL l oid place).length : Nat) : Int) ≤ _
    have hf := follow_len l oid place
    have hv := check_vat hc
    obtain ⟨a, x, ha, hx, _⟩ := has_here hv h2
    have hal := (List.getElem?_eq_some_iff.1 hx).1
    have hq : ((place.toNat : Nat) : Int) = place := Int.toNat_of_nonneg hp.1
    have hap : a ≠ place.toNat := fun e => h3 (by rw [ha, e, hq, beq_iff_eq])
    cases hb : foundB l oid (followL l oid place) with
    | true => rw [ask_found]; omega
    | false =>
      have := ask_lt (whereL l oid).1.f1 place.toNat l.length 0 false (followL l oid place).length (Nat.zero_le _) (by omega)
      rw [hq] at this
      omega
def phiR (l : List S36) (oid : Int) (s : Nat × Int × Bool) : Nat := rho l oid s.2.1 * l.length + (l.length - s.1)
/-- one step of a route -/
theorem step_nxR {l : List S36} {oid : Int} {i row : Nat} {t : Int} {f : Bool} (h1 : row < l.length) (h2 : atB (postA l i).f1 oid = false) :
    (messageB (postA l i) oid t = true ∧ nxR l oid i (row, t, f) = (((lookL (postA l i).f2 oid).f1, true), (0, (lookL (postA l i).f2 oid).f2, false)) ∧ rho l oid (lookL (postA l i).f2 oid).f2 < rho l oid t) ∨
    (nxR l oid i (row, t, f) = (((((i + 1) % l.length : Nat) : Int), true), (row + 1, t, false))) := by
  have hne : (atB (postA l (i : Int)).f1 oid || row == l.length) = false := by rw [h2, Bool.false_or, beq_eq_false_iff_ne]; omega
  unfold nxR
  dsimp only
  rw [hne, h2, if_neg (by simp)]
  unfold messageF
  rw [Int.toNat_natCast]
  by_cases hm : messageB (postA l (i : Int)) oid t = true
  · have hm0 := hm
    unfold messageB at hm0
    rw [Bool.and_eq_true, Bool.and_eq_true, decide_eq_true_iff] at hm0
    obtain ⟨⟨a, _⟩, c⟩ := hm0
    refine .inl ⟨hm, ?_, rho_lt (post_mem l i oid a) (show newer oid t _ = true by unfold newer; rw [a, decide_eq_true c]; rfl)⟩
    rw [if_pos hm, if_pos c]
  · right
    rw [if_neg hm, if_neg (Int.lt_irrefl _)]
theorem phi_step {r r' n row : Nat} (hr : r' < r) (h : row < n) : r' * n + (n - 0) + 1 ≤ r * n + (n - row) := by
  obtain ⟨d, rfl⟩ := Nat.exists_eq_add_of_lt hr
  have : (r' + d + 1) * n = r' * n + d * n + n := by rw [Nat.add_mul, Nat.add_mul, Nat.one_mul]
  omega
theorem go_nxR {l : List S36} {oid : Int} {p : Int} {s : Nat × Int × Bool} (hg : GoodR l p s) (h : (nxR l oid p s).1.2 = true) : ∃ i : Nat, p = (i : Int) ∧ i < l.length ∧ s.1 < l.length ∧ atB (postA l (i : Int)).f1 oid = false := by
  obtain ⟨⟨i, rfl, hi⟩, hs⟩ := hg
  refine ⟨i, rfl, hi, ?_⟩
  unfold nxR at h
  by_cases h1 : (atB (postA l i).f1 oid || s.1 == l.length) = true
  · rw [if_pos h1] at h; cases h
  · rw [Bool.or_eq_true, not_or, beq_iff_eq] at h1
    exact ⟨by omega, by simpa using h1.1⟩
theorem steps_phi {l : List S36} (hv : Vat l l.length) (oid : Int) : ∀ (f : Nat) (p : Int) (s : Nat × Int × Bool), GoodR l p s → (stepsR (nxR l oid) f p s).length ≤ phiR l oid s + 1
  | 0, p, s, _ => Nat.zero_le _
  | f + 1, p, s, hg => by
    unfold stepsR
    by_cases h : (nxR l oid p s).1.2 = true
    rotate_left
    · rw [if_neg h]; simp
    rw [if_pos h, List.length_cons]
    have hgo := good_nxR hv oid p s hg h
    have ih := steps_phi hv oid f (nxR l oid p s).1.1 (nxR l oid p s).2 hgo.1
    have hs : phiR l oid (nxR l oid p s).2 + 1 ≤ phiR l oid s := by
      clear ih hgo
      obtain ⟨i, rfl, hi, hr, ha⟩ := go_nxR hg h
      obtain ⟨row, t, b⟩ := s
      rcases step_nxR (t := t) (f := b) hr ha with ⟨_, e, hrho⟩ | e
      · rw [e]
        exact phi_step hrho hr
      · rw [e]
        show rho l oid t * l.length + (l.length - (row + 1)) + 1 ≤ rho l oid t * l.length + (l.length - row)
        have : row < l.length := hr
        omega
    omega
theorem route_len {l : List S36} (hv : Vat l l.length) (oid t : Int) {p : Nat} (hp : p < l.length) : (routeS l oid p t).length ≤ (l.length + 1) * l.length + 1 := by
  refine Nat.le_trans (steps_phi hv oid _ p (0, t, false) ⟨⟨p, rfl, hp⟩, Nat.zero_le _⟩) (Nat.succ_le_succ ?_)
  show rho l oid t * l.length + (l.length - 0) ≤ _
  have := Nat.mul_le_mul_right l.length (rho_le l oid t)
  rw [Nat.add_mul, Nat.one_mul]
  omega
/-- none of the places behind has it -/
def RowN (l : List S36) (oid : Int) (p : Int) (row : Nat) : Prop := ∀ i k : Nat, i < l.length → 1 ≤ k → k ≤ row → ((i + k : Nat) = p ∨ (i + k : Nat) = p + l.length) → atB (postA l (i : Int)).f1 oid = false
theorem row_next {l : List S36} {oid : Int} {p row : Nat} (h : RowN l oid p row) (hp : p < l.length) (ha : atB (postA l (p : Int)).f1 oid = false) : RowN l oid (((p + 1) % l.length : Nat) : Int) (row + 1) := by
  intro i k hi h1 h2 h3
  by_cases hw : p + 1 = l.length
  · rw [hw, Nat.mod_self] at h3
    by_cases hk : k = 1
    · have : i = p := by omega
      rw [this]; exact ha
    · exact h i (k - 1) hi (by omega) (by omega) (by omega)
  · rw [Nat.mod_eq_of_lt (by omega)] at h3
    by_cases hk : k = 1
    · have : i = p := by omega
      rw [this]; exact ha
    · exact h i (k - 1) hi (by omega) (by omega) (by omega)
theorem row_all {l : List S36} {oid : Int} {p : Nat} (hp : p < l.length) (h : RowN l oid p l.length) : (whereL l oid).2 = false := by
  cases hb : (whereL l oid).2 with
  | false => rfl
  | true =>
    obtain ⟨i, x, h1, h2, _⟩ := where_some hb
    have hi := (List.getElem?_eq_some_iff.1 h1).1
    have : atB (postA l (i : Int)).f1 oid = false := by
      by_cases hc : i < p
      · exact h i (p - i) hi (by omega) (by omega) (by omega)
      · exact h i (p + l.length - i) hi (by omega) (by omega) (by omega)
    rw [postA_some h1, h2] at this
    cases this
theorem steps_found {l : List S36} (hv : Vat l l.length) (oid : Int) : ∀ (f : Nat) (p : Int) (s : Nat × Int × Bool), GoodR l p s → RowN l oid p s.1 → muR l oid s < f → (stepsE (nxR l oid) f p s).2.2 = (whereL l oid).2
  | 0, p, s, _, _, h => by omega
  | f + 1, p, s, hg, hr, hm => by
    unfold stepsE
    by_cases h : (nxR l oid p s).1.2 = true
    · rw [if_pos h]
      have hgo := good_nxR hv oid p s hg h
      refine steps_found hv oid f _ _ hgo.1 ?_ (by omega)
      obtain ⟨i, rfl, hi, hr1, ha⟩ := go_nxR hg h
      obtain ⟨row, t, b⟩ := s
      rcases step_nxR (t := t) (f := b) hr1 ha with ⟨_, e, _⟩ | e
      · rw [e]
        intro j k _ h1 h2
        have : k ≤ 0 := h2
        omega
      · rw [e]
        exact row_next hr hi ha
    · rw [if_neg h]
      obtain ⟨⟨i, rfl, hi⟩, hs⟩ := hg
      unfold nxR at h ⊢
      by_cases h1 : (atB (postA l i).f1 oid || s.1 == l.length) = true
      rotate_left
      · rw [if_neg h1] at h; exact absurd rfl h
      rw [if_pos h1]
      show atB (postA l i).f1 oid = _
      by_cases h2 : atB (postA l i).f1 oid = true
      · rw [h2, where_mem (post_mem1 l i oid h2) h2]
      · rw [Bool.or_eq_true, beq_iff_eq] at h1
        have h3 : s.1 = l.length := h1.resolve_left h2
        rw [h3] at hr
        rw [row_all hi hr]
        simpa using h2
theorem route_found {l : List S36} {oid place time : Int} (hc : checkF l = true) (ho : 1 ≤ oid) (hp : 0 ≤ place ∧ place < l.length) :
    ((routeF l place oid time).2.2 ≠ 0 → time < -1 ∨ 1099511627776 < time) ∧
    ((routeF l place oid time).2.2 = 0 → (routeF l place oid time).2.1 = (whereL l oid).2 ∧ (routeF l place oid time).1.length ≤ (l.length + 1) * l.length + 1) := by
  have hv := check_vat hc
  unfold routeF
  by_cases ht : timeOk oid time = true
  · have hg := given_of (l := l) (ok := timeOk oid time) (ps := [place]) hc ht (fun p hm => by rw [List.mem_singleton] at hm; rw [hm]; exact hp)
    rw [if_pos hg]
    obtain ⟨i, rfl⟩ : ∃ i : Nat, place = (i : Int) := ⟨place.toNat, (Int.toNat_of_nonneg hp.1).symm⟩
    refine ⟨fun h => absurd rfl h, fun _ => ⟨?_, route_len hv oid time (by omega)⟩⟩
    exact steps_found hv oid _ i (0, time, false) ⟨⟨i, rfl, by omega⟩, Nat.zero_le _⟩ (fun j k _ h1 h2 => by have : k ≤ 0 := h2; omega) (Nat.lt_succ_self _)
  · have hf : timeOk oid time = false := by simpa using ht
    have hne : ¬ (givenC l (timeOk oid time) [place] = 0) := by
      unfold givenC
      rw [if_pos hc, hf, if_pos (by simp)]
      simp
    rw [if_neg hne]
    refine ⟨fun _ => ?_, fun h => absurd h hne⟩
    unfold timeOk at hf
    rw [decide_eq_true ho, Bool.true_and, Bool.and_eq_false_iff, decide_eq_false_iff_not, decide_eq_false_iff_not] at hf
    omega
end Go.Proofs.Ytjnceoohlcchnaa.Print

/-! what a second search finds -/
namespace Go.Proofs.Ytjnceoohlcchnaa.Print
open Go Go.RowKit Go.Deep Go.Proofs.YtjnceoohlcchnaaW.PrintWords Go.Proofs.YtjnceoohlcchnaaW.PrintLast Go.Proofs.YtjnceoohlcchnaaW.PrintMore
def Agreed (h : S31) (p q : S36) : Prop := q.f0 = p.f0 ∧ q.f1 = p.f1 ∧ ((atB q.f2 h.f0 = atB p.f2 h.f0 ∧ lookL q.f2 h.f0 = lookL p.f2 h.f0) ∨ (atB q.f2 h.f0 = true ∧ lookL q.f2 h.f0 = h ∧ atB p.f1 h.f0 = false ∧ (atB p.f2 h.f0 = true → (lookL p.f2 h.f0).f2 < h.f2)))
/-- a map some of whose places were told a hint -/
structure Told (l n : List S36) (h : S31) : Prop where
  len : n.length = l.length
  vat : Vat n l.length
  agr : Agrees n h
  at' : ∀ (i : Nat) (p : S36), l[i]? = some p → ∃ q, n[i]? = some q ∧ Agreed h p q
theorem told_refl {l : List S36} {h : S31} {a : Nat} (hv : Vat l l.length) (hh : HasAt l a h) : Told l l h :=
  ⟨rfl, hv, agrees_has hv hh, fun _ p hp => ⟨p, hp, rfl, rfl, .inl ⟨rfl, rfl⟩⟩⟩
theorem told_tell {l n : List S36} {h : S31} (T : Told l n h) (hh : HintV l.length h) {i : Nat} {x : S36} (hi : n[i]? = some x) (hup : x.f0 = true) : Told l (tellF n i h).2 h := by
  refine ⟨by rw [tell_len, T.len], vat_tell T.vat hi hh hup T.agr, agrees_tell hi T.agr, fun j p hp => ?_⟩
  obtain ⟨q, hq, e1, e2, e3⟩ := T.at' j p hp
  rcases tell_cases hi h with ⟨e, _⟩ | ⟨e, c1, c2⟩
  · rw [e]; exact ⟨q, hq, e1, e2, e3⟩
  · rw [e]
    dsimp only
    rw [set_at hi]
    by_cases hj : j = i
    · subst hj
      rw [if_pos rfl]
      rw [hi] at hq
      cases hq
      have hs := (T.vat.ok x (List.mem_of_getElem? hi)).hints.sorted
      obtain ⟨q1, q2⟩ := look_of_mem (put_sorted hs h) (x := h) (put_mem.2 (.inl rfl))
      refine ⟨_, rfl, e1, e2, .inr ⟨q1, q2, by rw [← e2]; exact c1, fun hb => ?_⟩⟩
      rcases e3 with ⟨r1, r2⟩ | ⟨_, _, _, r4⟩
      · rcases c2 with c2 | c2
        · rw [← r2]; exact c2.2
        · rw [← r1, c2.1] at hb; cases hb
      · exact r4 hb
    · rw [if_neg hj]
      exact ⟨q, hq, e1, e2, e3⟩
def Knows (n : List S36) (i : Nat) (h : S31) : Prop := ∃ q, n[i]? = some q ∧ (atB q.f1 h.f0 = true ∨ atB q.f2 h.f0 = true ∧ h.f2 ≤ (lookL q.f2 h.f0).f2)
theorem knows_tell {n : List S36} {m : Int} (hv : Vat n m) {h : S31} {i j : Nat} {x : S36} (hj : n[j]? = some x) (hk : Knows n i h ∨ i = j ∧ (tellF n j h).1 = true) : Knows (tellF n j h).2 i h := by
  rcases tell_cases hj h with ⟨e, c⟩ | ⟨e, _, _⟩
  · rw [e]
    rcases hk with hk | ⟨rfl, hk⟩
    · exact hk
    · exact ⟨x, hj, c hk⟩
  · rw [e]
    dsimp only
    unfold Knows
    rw [set_at hj]
    by_cases hij : i = j
    · rw [if_pos hij]
      obtain ⟨q1, q2⟩ := look_of_mem (put_sorted (hv.ok x (List.mem_of_getElem? hj)).hints.sorted h) (x := h) (put_mem.2 (.inl rfl))
      exact ⟨_, rfl, .inr ⟨q1, by dsimp only; rw [q2]; exact Int.le_refl _⟩⟩
    · rw [if_neg hij]
      exact hk.elim id (fun c => absurd c.1 hij)
theorem post_none {l : List S36} {i : Int} (h : l[i.toNat]? = none) : postA l i = ⟨false, [], []⟩ := by
  unfold postA
  rw [List.getD_eq_getElem?_getD, h]; rfl
theorem post_is {l : List S36} {i : Int} {x : S36} (h : l[i.toNat]? = some x) : postA l i = x := by
  unfold postA
  rw [List.getD_eq_getElem?_getD, h]; rfl
theorem tells_told {l : List S36} {h : S31} (hh : HintV l.length h) : ∀ (ps : List Int) (n r : List S36), Told l n h → tellsF h ps n = some r → Told l r h ∧ (∀ i : Nat, Knows n i h ∨ ((i : Int) ∈ ps ∧ (postA n i).f0 = true) → Knows r i h)
  | [], n, r, T, e => by
    unfold tellsF at e
    cases e
    exact ⟨T, fun i hi => hi.elim id (fun c => by cases c.1)⟩
  | p :: ps, n, r, T, e => by
    unfold tellsF at e
    by_cases h1 : (postA n p).f0 = true
    · rw [if_pos h1] at e
      by_cases h2 : (tellF n p.toNat h).1 = true
      · rw [if_pos h2] at e
        cases hx : n[p.toNat]? with
        | none => rw [post_none hx] at h1; cases h1
        | some x =>
          have h1x : x.f0 = true := by rw [← post_is hx]; exact h1
          obtain ⟨T2, K⟩ := tells_told hh ps _ r (told_tell T hh hx h1x) e
          refine ⟨T2, fun i hi => ?_⟩
          rcases hi with hi | ⟨hi, hu⟩
          · exact K i (.inl (knows_tell T.vat hx (.inl hi)))
          · rcases List.mem_cons.1 hi with hi | hi
            · subst hi
              exact K i (.inl (knows_tell T.vat hx (.inr ⟨by rw [Int.toNat_natCast], h2⟩)))
            · refine K i (.inr ⟨hi, ?_⟩)
              cases hy : n[i]? with
              | none => rw [post_none (i := (i : Int)) (by rw [Int.toNat_natCast]; exact hy)] at hu; cases hu
              | some y =>
                rw [postA_some hy] at hu
                rcases tell_cases hx h with ⟨e, _⟩ | ⟨e, _, _⟩
                · rw [e, postA_some hy]; exact hu
                · rw [e]
                  dsimp only
                  by_cases hij : i = p.toNat
                  · rw [postA_some (x := ⟨x.f0, x.f1, putL x.f2 h⟩) (by rw [set_at hx, if_pos hij])]
                    exact h1x
                  · rw [postA_some (x := y) (by rw [set_at hx, if_neg hij]; exact hy)]
                    exact hu
      · rw [if_neg h2] at e; cases e
    · rw [if_neg h1] at e
      obtain ⟨T2, K⟩ := tells_told hh ps n r T e
      refine ⟨T2, fun i hi => K i (hi.elim .inl (fun c => ?_))⟩
      rcases List.mem_cons.1 c.1 with hi | hi
      · rw [← hi] at h1; exact absurd c.2 h1
      · exact .inr ⟨hi, c.2⟩
theorem told_post {l n : List S36} {h : S31} (T : Told l n h) (p : Int) : Agreed h (postA l p) (postA n p) := by
  cases hx : l[p.toNat]? with
  | none =>
    have : n[p.toNat]? = none := by
      rw [List.getElem?_eq_none_iff] at hx ⊢
      rw [T.len]; exact hx
    rw [post_none hx, post_none this]
    exact ⟨rfl, rfl, .inl ⟨rfl, rfl⟩⟩
  | some x =>
    obtain ⟨q, hq, e⟩ := T.at' _ x hx
    rw [post_is hx, post_is hq]
    exact e
theorem told_has {l n : List S36} {h g : S31} (T : Told l n h) {i : Nat} (hg : HasAt l i g) : HasAt n i g := by
  obtain ⟨p, hp, hm⟩ := hg
  obtain ⟨q, hq, _, e, _⟩ := T.at' i p hp
  exact ⟨q, hq, by rw [e]; exact hm⟩
theorem told_where {l n : List S36} {h : S31} {a : Nat} (T : Told l n h) (hh : HasAt l a h) : whereL n h.f0 = (h, true) := has_where T.vat (told_has T hh)
theorem told_check {l n : List S36} {h : S31} (T : Told l n h) (hc : checkF l = true) : checkF n = true := by
  have hm := (check_iff l).1 hc
  refine (check_iff n).2 ⟨by rw [T.len]; exact hm.one, by rw [T.len]; exact hm.most, ?_⟩
  rw [T.len]
  exact (vat_iff _ _).2 T.vat
theorem lastI_one (p : Int) : lastI [p] = p := rfl
theorem lastI_cons (p : Int) {r : List Int} (h : r ≠ []) : lastI (p :: r) = lastI r := by
  unfold lastI
  cases r with
  | nil => exact absurd rfl h
  | cons a r =>
    rw [List.length_cons, Nat.add_sub_cancel, List.length_cons, List.getD_cons_succ, Nat.add_sub_cancel]
theorem steps_ne {σ : Type} (nx : Int → σ → (Int × Bool) × σ) (f : Nat) (p : Int) (s : σ) : stepsR nx (f + 1) p s ≠ [] := by
  unfold stepsR
  exact List.cons_ne_nil _ _
theorem stepsR_go {σ : Type} {nx : Int → σ → (Int × Bool) × σ} {f : Nat} {p : Int} {s : σ} {q : Int} {s2 : σ} (h : nx p s = ((q, true), s2)) : stepsR nx (f + 1) p s = p :: stepsR nx f q s2 := by
  rw [stepsR, h, if_pos rfl]
theorem stepsR_stop {σ : Type} {nx : Int → σ → (Int × Bool) × σ} {f : Nat} {p : Int} {s : σ} (h : ¬ (nx p s).1.2 = true) : stepsR nx (f + 1) p s = [p] := by
  rw [stepsR, if_neg h]
/-- where the object is, one stays -/
theorem stay_nxH {n : List S36} {oid p t : Int} (h : atB (postA n p).f1 oid = true) (f : Nat) : stepsR (nxH n oid) (f + 1) p t = [p] := by
  have : (nxH n oid p t).1.2 = false := by unfold nxH; rw [if_pos h]
  unfold stepsR
  rw [this]
  rfl
theorem has_atB {l : List S36} {m : Int} (hv : Vat l m) {a : Nat} {h : S31} (hh : HasAt l a h) : atB (postA l (a : Int)).f1 h.f0 = true := by
  obtain ⟨p, hp, hm⟩ := hh
  rw [postA_some hp]
  exact at_of_mem (hv.ok p (List.mem_of_getElem? hp)).has.sorted hm
/-- what a hint of the object says -/
theorem hint_old {l : List S36} {m : Int} (hv : Vat l m) {a : Nat} {h : S31} (hh : HasAt l a h) {p : Int} (hb : atB (postA l p).f2 h.f0 = true) : (lookL (postA l p).f2 h.f0).f2 < h.f2 ∨ (lookL (postA l p).f2 h.f0).f2 = h.f2 ∧ (lookL (postA l p).f2 h.f0).f1 = h.f1 := by
  have hm := post_mem l p _ hb
  obtain ⟨a1, a2⟩ := at_found hb
  obtain ⟨j, hj⟩ := hint_of hm a1
  exact hv.older a j h _ hh hj a2.symm
theorem shorter {l n : List S36} {h : S31} {a : Nat} (hv : Vat l l.length) (hh : HasAt l a h) (T : Told l n h) : ∀ (f : Nat) (p t : Int), rho l h.f0 t + 2 ≤ f → (t < h.f2 ∨ p = h.f1) →
    ((stepsR (nxH n h.f0) f p t).length = (stepsR (nxH l h.f0) f p t).length ∧ lastI (stepsR (nxH n h.f0) f p t) = lastI (stepsR (nxH l h.f0) f p t)) ∨
    (foundB n h.f0 (stepsR (nxH n h.f0) f p t) = true ∧ (stepsR (nxH n h.f0) f p t).length ≤ (stepsR (nxH l h.f0) f p t).length + (if foundB l h.f0 (stepsR (nxH l h.f0) f p t) = true then 0 else 1))
  | 0, _, _, h0, _ => by omega
  | 1, _, _, h0, _ => by omega
  | f + 2, p, t, h0, hi => by
    obtain ⟨e0, e1, e2⟩ := told_post T p
    have hha : h.f1 = (a : Int) := hv.here a h hh
    by_cases c1 : atB (postA l p).f1 h.f0 = true
    · rw [stay_nxH c1, stay_nxH (by rw [e1]; exact c1)]
      exact .inl ⟨rfl, rfl⟩
    have c1n : ¬ atB (postA n p).f1 h.f0 = true := by rw [e1]; exact c1
    have ht : t < h.f2 := hi.resolve_right (fun e => c1 (by rw [e, hha]; exact has_atB hv hh))
    rcases e2 with ⟨g1, g2⟩ | ⟨g1, g2, g3, g4⟩
    · -- the same hint
      have en : nxH n h.f0 p t = nxH l h.f0 p t := by
        unfold nxH
        rw [if_neg c1, if_neg c1n, g1, g2]
      by_cases hgo : (nxH l h.f0 p t).1.2 = true
      · have c2 : (atB (postA l p).f2 h.f0 && decide (t < (lookL (postA l p).f2 h.f0).f2)) = true := by
          unfold nxH at hgo
          rw [if_neg c1] at hgo
          by_cases c2 : (atB (postA l p).f2 h.f0 && decide (t < (lookL (postA l p).f2 h.f0).f2)) = true
          · exact c2
          · rw [if_neg c2] at hgo; cases hgo
        have ev : nxH l h.f0 p t = (((lookL (postA l p).f2 h.f0).f1, true), (lookL (postA l p).f2 h.f0).f2) := by
          unfold nxH
          rw [if_neg c1, if_pos c2]
        have hb : atB (postA l p).f2 h.f0 = true := by rw [Bool.and_eq_true] at c2; exact c2.1
        have hr := rho_lt (t := t) (post_mem l p _ hb) (show newer h.f0 t _ = true from c2)
        have ho := hint_old hv hh hb
        have ih := shorter hv hh T (f + 1) (lookL (postA l p).f2 h.f0).f1 (lookL (postA l p).f2 h.f0).f2 (by omega) (ho.elim .inl (fun c => .inr c.2))
        rw [stepsR_go (f := f + 1) ev, stepsR_go (f := f + 1) (en.trans ev)]
        have n1 := steps_ne (nxH l h.f0) f (lookL (postA l p).f2 h.f0).f1 (lookL (postA l p).f2 h.f0).f2
        have n2 := steps_ne (nxH n h.f0) f (lookL (postA l p).f2 h.f0).f1 (lookL (postA l p).f2 h.f0).f2
        generalize stepsR (nxH l h.f0) (f + 1) (lookL (postA l p).f2 h.f0).f1 (lookL (postA l p).f2 h.f0).f2 = A at ih n1 ⊢
        generalize stepsR (nxH n h.f0) (f + 1) (lookL (postA l p).f2 h.f0).f1 (lookL (postA l p).f2 h.f0).f2 = B at ih n2 ⊢
        unfold foundB at ih ⊢
        rw [lastI_cons p n1, lastI_cons p n2, List.length_cons, List.length_cons]
        rcases ih with ⟨i1, i2⟩ | ⟨i1, i2⟩
        · exact .inl ⟨by omega, i2⟩
        · exact .inr ⟨i1, by omega⟩
      · rw [stepsR_stop (f := f + 1) hgo, stepsR_stop (f := f + 1) (by rw [en]; exact hgo)]
        exact .inl ⟨rfl, rfl⟩
    · -- it was told
      right
      have ev : nxH n h.f0 p t = ((h.f1, true), h.f2) := by
        unfold nxH
        rw [if_neg c1n, g1, g2, decide_eq_true ht]
        rfl
      have hs : stepsR (nxH n h.f0) (f + 2) p t = [p, h.f1] := by
        have hst : atB (postA n h.f1).f1 h.f0 = true := by rw [hha]; exact has_atB T.vat (told_has T hh)
        rw [stepsR_go (f := f + 1) ev, stay_nxH hst]
      rw [hs]
      refine ⟨?_, ?_⟩
      · unfold foundB
        rw [show lastI [p, h.f1] = h.f1 from rfl, hha]
        exact has_atB T.vat (told_has T hh)
      · rw [show [p, h.f1].length = 2 from rfl]
        by_cases hgo : (nxH l h.f0 p t).1.2 = true
        · have n1 := List.length_pos_iff.2 (steps_ne (nxH l h.f0) f (nxH l h.f0 p t).1.1 (nxH l h.f0 p t).2)
          rw [stepsR_go (f := f + 1) (nx := nxH l h.f0) (p := p) (s := t) (q := (nxH l h.f0 p t).1.1) (s2 := (nxH l h.f0 p t).2) (Prod.ext (Prod.ext rfl hgo) rfl), List.length_cons]
          omega
        · rw [stepsR_stop (f := f + 1) hgo, if_neg]
          · exact Nat.le_refl _
          · unfold foundB
            rw [lastI_one]
            exact c1
theorem ask_mono (place hp : Int) : ∀ (m p : Nat) (f : Bool) (s : Nat), s ≤ askN place hp m p f s
  | 0, _, _, s => Nat.le_refl _
  | m + 1, p, f, s => by
    unfold askN
    split
    · exact Nat.le_refl _
    · split
      · exact ask_mono place hp m (p + 1) f s
      · exact Nat.le_trans (Nat.le_succ _) (ask_mono place hp m (p + 1) _ (s + 1))
theorem ask_gt (place hp : Int) {q : Nat} (hq : (q : Int) ≠ place) : ∀ (m p s : Nat), p ≤ q → q < p + m → s + 1 ≤ askN place hp m p false s
  | 0, p, s, h1, h2 => by omega
  | m + 1, p, s, h1, h2 => by
    unfold askN
    rw [if_neg (by simp)]
    split
    · next h =>
      rw [beq_iff_eq] at h
      have : p ≠ q := fun e => hq (by rw [← e]; exact h)
      exact ask_gt place hp hq m (p + 1) s (by omega) (by omega)
    · exact ask_mono place hp m (p + 1) _ (s + 1)
/-- the parts of a search that found something -/
theorem search_ok {l : List S36} {place oid : Int} (h0 : (searchF l place oid).2.2.2 = 0) : ∃ (a : Nat) (h : S31) (b : Nat), checkF l = true ∧ 1 ≤ oid ∧ place = (b : Int) ∧ b < l.length ∧ (postA l place).f0 = true ∧ whereL l oid = (h, true) ∧ h.f0 = oid ∧ h.f1 = (a : Int) ∧ HasAt l a h ∧ HintV l.length h ∧
    ((a = b ∧ searchF l place oid = (l, h, 0, 0)) ∨ (a ≠ b ∧ ∃ r, tellsF h (place :: followL l oid place) l = some r ∧ searchF l place oid = (r, h, ((askN place h.f1 l.length 0 (foundB l oid (followL l oid place)) (followL l oid place).length : Nat) : Int), 0))) := by
  unfold searchF at h0 ⊢
  by_cases g : givenC l (decide (1 ≤ oid)) [place] = 0
  rotate_left
  · rw [if_neg g] at h0; exact absurd h0 g
  rw [if_pos g] at h0 ⊢
  obtain ⟨g1, g2, _, _⟩ := given_in g
  obtain ⟨b, hb, hbl, _⟩ := given_post g
  have hv := check_vat g2
  by_cases h1 : (postA l place).f0 = true
  rotate_left
  · rw [if_neg h1] at h0; cases h0
  rw [if_pos h1] at h0 ⊢
  by_cases h2 : (whereL l oid).2 = true
  rotate_left
  · rw [if_neg h2] at h0; cases h0
  rw [if_pos h2] at h0 ⊢
  obtain ⟨a, x, ha, hx, hhas, h00, hhv⟩ := has_here hv h2
  refine ⟨a, (whereL l oid).1, b, g2, by simpa using g1, hb, hbl, h1, Prod.ext rfl h2, h00, ha, hhas, hhv, ?_⟩
  by_cases h3 : ((whereL l oid).1.f1 == place) = true
  · rw [if_pos h3]
    rw [beq_iff_eq] at h3
    exact .inl ⟨by omega, rfl⟩
  · rw [if_neg h3] at h0 ⊢
    rw [beq_iff_eq] at h3
    refine .inr ⟨fun e => h3 (by rw [ha, hb, e]), ?_⟩
    cases ht : tellsF (whereL l oid).1 (place :: followL l oid place) l with
    | none => rw [ht] at h0; cases h0
    | some r => exact ⟨r, rfl, rfl⟩
/-- what a search in a told map comes to -/
theorem told_search {l n : List S36} {h : S31} {a : Nat} (hc : checkF l = true) (hh : HasAt l a h) (T : Told l n h) (ho : 1 ≤ h.f0) {b : Nat} (hb : b < l.length) (hup : (postA l (b : Int)).f0 = true) :
    (a = b → searchF n (b : Int) h.f0 = (n, h, 0, 0)) ∧ (a ≠ b → searchF n (b : Int) h.f0 = searchO h (askN (b : Int) h.f1 n.length 0 (foundB n h.f0 (followL n h.f0 (b : Int))) (followL n h.f0 (b : Int)).length) (tellsF h ((b : Int) :: followL n h.f0 (b : Int)) n)) := by
  have hg : givenC n (decide (1 ≤ h.f0)) [(b : Int)] = 0 := given_of (told_check T hc) (decide_eq_true ho) (fun p hm => by rw [List.mem_singleton] at hm; rw [hm, T.len]; omega)
  have hha : h.f1 = (a : Int) := (check_vat hc).here a h hh
  unfold searchF
  rw [if_pos hg, (told_post T (b : Int)).1, if_pos hup, told_where T hh, if_pos rfl]
  dsimp only
  refine ⟨fun e => ?_, fun e => ?_⟩
  · rw [if_pos (by rw [hha, e]; simp)]
  · rw [if_neg (by rw [hha, beq_iff_eq]; omega)]
/-- SHORTER WAYS -/
theorem again {l : List S36} {place oid : Int} (other : Int) (h0 : (searchF l place oid).2.2.2 = 0) : ∃ (n : List S36) (h : S31) (s1 s2 : Int), searchF l place oid = (n, h, s1, 0) ∧ searchF n place oid = (n, h, s2, 0) ∧ s2 ≤ 2 ∧ checkF n = true ∧
    ((searchF l other oid).2.2.2 ≠ 0 ∨ ((searchF n other oid).2.2.2 = 0 ∧ (searchF n other oid).2.2.1 ≤ (searchF l other oid).2.2.1) ∨ (searchF n other oid).2.2.2 = 2) := by
  obtain ⟨a, h, b, hc, ho, rfl, hbl, hup, hw, rfl, hf1, hh, hhv, hcase⟩ := search_ok h0
  have hv := check_vat hc
  have ho' : ∀ n, Told l n h → ((searchF l other h.f0).2.2.2 ≠ 0 ∨ ((searchF n other h.f0).2.2.2 = 0 ∧ (searchF n other h.f0).2.2.1 ≤ (searchF l other h.f0).2.2.1) ∨ (searchF n other h.f0).2.2.2 = 2) := by
    intro n T
    by_cases g0 : (searchF l other h.f0).2.2.2 = 0
    rotate_left
    · exact .inl g0
    right
    obtain ⟨a', h', c, _, _, rfl, hcl, hup2, hw2, _, hf2, hh2, _, hcase2⟩ := search_ok g0
    rw [hw] at hw2
    injection hw2 with hw3 _
    subst hw3
    have haa : a' = a := by omega
    subst haa
    obtain ⟨t1, t2⟩ := told_search hc hh T ho hcl hup2
    rcases hcase2 with ⟨e, hs⟩ | ⟨e, r, _, hs⟩
    · rw [t1 e, hs]
      exact .inl ⟨rfl, Int.le_refl _⟩
    · rw [t2 e, hs]
      cases ht : tellsF h ((c : Int) :: followL n h.f0 (c : Int)) n with
      | none => exact .inr rfl
      | some r2 =>
        refine .inl ⟨rfl, ?_⟩
        show ((askN _ _ _ _ _ _ : Nat) : Int) ≤ ((askN _ _ _ _ _ _ : Nat) : Int)
        have hsh := shorter hv hh T 1099511627778 (c : Int) (-1) (by have := rho_le l h.f0 (-1); have := ((check_iff l).1 hc).most; omega) (.inl (by have := hhv.t0; omega))
        have hal := (List.getElem?_eq_some_iff.1 hh.choose_spec.1).1
        have hg := ask_gt (c : Int) h.f1 (q := a') (by omega) l.length 0 (followL l h.f0 (c : Int)).length (Nat.zero_le _) (by omega)
        rw [T.len]
        unfold followL at hg ⊢
        generalize stepsR (nxH l h.f0) 1099511627778 (c : Int) (-1) = A at hsh hg ⊢
        generalize stepsR (nxH n h.f0) 1099511627778 (c : Int) (-1) = B at hsh ⊢
        rcases hsh with ⟨i1, i2⟩ | ⟨i1, i2⟩
        · have : foundB n h.f0 B = foundB l h.f0 A := by unfold foundB; rw [i2, (told_post T _).2.1]
          rw [this, i1]
          exact Int.le_refl _
        · rw [i1, ask_found]
          cases hfa : foundB l h.f0 A with
          | true => rw [hfa, if_pos rfl] at i2; rw [ask_found]; omega
          | false => rw [hfa, if_neg (by simp)] at i2; omega
  rcases hcase with ⟨e, hs⟩ | ⟨e, r, ht, hs⟩
  · exact ⟨l, h, 0, 0, hs, hs, by decide, hc, ho' l (told_refl hv hh)⟩
  · obtain ⟨T, K⟩ := tells_told hhv _ l r (told_refl hv hh) ht
    have hk := K b (.inr ⟨List.mem_cons_self .., hup⟩)
    obtain ⟨q, hq, hk⟩ := hk
    have hpq : postA r (b : Int) = q := postA_some hq
    obtain ⟨_, t2⟩ := told_search hc hh T ho hbl hup
    have hn1 : ¬ atB (postA r (b : Int)).f1 h.f0 = true := by
      rw [(told_post T (b : Int)).2.1]
      intro hc1
      obtain ⟨m1, m2⟩ := at_found hc1
      obtain ⟨p, hp⟩ : ∃ p, l[b]? = some p := ⟨_, List.getElem?_eq_getElem hbl⟩
      rw [postA_some hp] at m1 m2
      have e2 := hv.once b a _ h ⟨p, hp, m1⟩ hh m2
      have := hv.here b _ ⟨p, hp, m1⟩
      rw [e2, hf1] at this
      omega
    have hk2 : atB (postA r (b : Int)).f2 h.f0 = true ∧ h.f2 ≤ (lookL (postA r (b : Int)).f2 h.f0).f2 := by
      rw [hpq]
      rw [hpq] at hn1
      exact hk.resolve_left hn1
    have hold := hint_old T.vat (told_has T hh) hk2.1
    have hl2 : (lookL (postA r (b : Int)).f2 h.f0).f2 = h.f2 := by rcases hold with c | c <;> omega
    have hl1 : (lookL (postA r (b : Int)).f2 h.f0).f1 = h.f1 := by rcases hold with c | c; omega; exact c.2
    have hst : atB (postA r h.f1).f1 h.f0 = true := by rw [hf1]; exact has_atB T.vat (told_has T hh)
    have hfol : followL r h.f0 (b : Int) = [(b : Int), h.f1] := by
      have n1 : nxH r h.f0 (b : Int) (-1) = ((h.f1, true), h.f2) := by
        unfold nxH
        rw [if_neg hn1, hk2.1, hl2, hl1, decide_eq_true (by have := hhv.t0; omega)]
        rfl
      unfold followL
      rw [show (1099511627778 : Nat) = 1099511627777 + 1 from rfl, stepsR_go n1, show (1099511627777 : Nat) = 1099511627776 + 1 from rfl, stay_nxH hst]
    have hfo : foundB r h.f0 [(b : Int), h.f1] = true := by
      unfold foundB
      rw [show lastI [(b : Int), h.f1] = h.f1 from rfl]
      exact hst
    have tb : tellF r b h = (true, r) := by
      unfold tellF
      rw [if_neg hn1, hk2.1, decide_eq_true hk2.2]
      rfl
    have ta : tellF r a h = (true, r) := by
      unfold tellF
      rw [← hf1, if_pos hst]
    have hupr : (postA r (b : Int)).f0 = true := by rw [(told_post T (b : Int)).1]; exact hup
    have htl : tellsF h [(b : Int), (b : Int), h.f1] r = some r := by
      unfold tellsF
      rw [if_pos hupr, Int.toNat_natCast, tb, if_pos rfl]
      dsimp only
      unfold tellsF
      rw [if_pos hupr, Int.toNat_natCast, tb, if_pos rfl]
      dsimp only
      unfold tellsF
      by_cases hua : (postA r h.f1).f0 = true
      · rw [if_pos hua, hf1, Int.toNat_natCast, ta, if_pos rfl]
        rfl
      · rw [if_neg hua]
        rfl
    refine ⟨r, h, _, 2, hs, ?_, by decide, told_check T hc, ho' r T⟩
    rw [t2 e, hfol, hfo, htl, ask_found]
    rfl
end Go.Proofs.Ytjnceoohlcchnaa.Print

/-! whatever is done to a map -/
namespace Go.Proofs.Ytjnceoohlcchnaa.Print
open Go Go.RowKit Go.Deep Go.Proofs.YtjnceoohlcchnaaW.PrintWords Go.Proofs.YtjnceoohlcchnaaW.PrintLast Go.Proofs.YtjnceoohlcchnaaW.PrintMore
def pickI (n k : Int) : Int := n % k
def keepF (m : List S36) (o : List S36 × Int) (plain : Bool) : List S36 × Bool := if o.2 = 0 then (o.1, plain) else (m, true)
def actO (m : List S36) (k : Int) (place oid : Int) : (List S36 × Int) × Bool :=
  if k = 0 ∨ k = 1 then (makeF m oid place, true)
  else if k = 2 ∨ k = 3 ∨ k = 4 then (moveF m oid place, true)
  else if k = 5 then (((searchF m place oid).1, (searchF m place oid).2.2.2), true)
  else if k = 6 then ((if (whereF m oid).2 = 0 then tellG m place (whereF m oid).1 else ([], 1)), true)
  else if k = 7 then (forgetF m place oid, false)
  else ((if (postA m place).f0 = true then ((crashF m place).1, (crashF m place).2.2) else recoverF m place []), false)
def actF (m : List S36) (kind a b : Int) : List S36 × Bool :=
  if m.length = 0 then (m, true) else keepF m (actO m (pickI kind 9) (pickI a m.length) (1 + pickI b 4)).1 (actO m (pickI kind 9) (pickI a m.length) (1 + pickI b 4)).2
/-- where a hint leads, the object is, or a newer one -/
def Live (l : List S36) : Prop := ∀ (i : Nat) (g : S31), HintAt l i g → ∃ r : Nat, g.f1 = (r : Int) ∧ ((∃ h, HasAt l r h ∧ h.f0 = g.f0) ∨ ∃ g', HintAt l r g' ∧ g'.f0 = g.f0 ∧ g.f2 < g'.f2)
def KnowsOf (l : List S36) (p : Nat) (oid : Int) : Prop := (∃ h, HasAt l p h ∧ h.f0 = oid) ∨ ∃ g, HintAt l p g ∧ g.f0 = oid
structure Step (l n : List S36) (plain : Bool) : Prop where
  chk : checkF n = true
  len : n.length = l.length
  live : plain = true → Live l → Live n
  knows : plain = true → ∀ p oid, KnowsOf l p oid → KnowsOf n p oid
theorem step_refl {l : List S36} (hc : checkF l = true) (b : Bool) : Step l l b := ⟨hc, rfl, fun _ h => h, fun _ _ _ h => h⟩
theorem step_false {l n : List S36} (hc : checkF n = true) (hl : n.length = l.length) : Step l n false := ⟨hc, hl, fun e => (by cases e), fun e => (by cases e)⟩
theorem make_step {l : List S36} {oid place : Int} (h : (makeF l oid place).2 = 0) : Step l (makeF l oid place).1 true := by
  unfold makeF at h ⊢
  by_cases c : givenC l (decide (1 ≤ oid)) [place] = 0
  rotate_left
  · rw [if_neg c] at h; exact absurd h c
  rw [if_pos c] at h ⊢
  by_cases d : ((l.any fun p => atB p.f1 oid || atB p.f2 oid) || !(postA l place).f0) = true
  · rw [if_pos d] at h; cases h
  rw [if_neg d] at h ⊢
  by_cases e : 4000 ≤ (postA l place).f1.length
  · rw [if_pos e] at h; cases h
  rw [if_neg e]
  obtain ⟨ho, hc, _, _⟩ := given_in c
  obtain ⟨i, hpi, hil, hx⟩ := given_post c
  rw [decide_eq_true_iff] at ho
  have hv := check_vat hc
  have hm := (check_iff l).1 hc
  rw [Bool.not_eq_true, Bool.or_eq_false_iff, List.any_eq_false] at d
  obtain ⟨d1, d2⟩ := d
  have hup : (postA l place).f0 = true := by simpa using d2
  have hk : ∀ p ∈ l, atB p.f1 oid = false ∧ atB p.f2 oid = false := fun p hp => by
    have := d1 p hp
    rwa [Bool.not_eq_true, Bool.or_eq_false_iff] at this
  have hv2 := vat_make hv hx (by omega) ho hup (by omega) hk
  have e1 : place.toNat = i := by omega
  rw [e1, hpi] at *
  have hk1 : ∀ j g, HasAt l j g → g.f0 ≠ oid := fun j g ⟨p, hp, hg⟩ e => by
    have hp2 := List.mem_of_getElem? hp
    have := at_of_mem (hv.ok p hp2).has.sorted hg
    rw [e, (hk p hp2).1] at this; cases this
  refine ⟨(check_iff _).2 ⟨by rw [List.length_set]; exact hm.one, by rw [List.length_set]; exact hm.most, by rw [List.length_set]; exact (vat_iff _ _).2 hv2⟩, List.length_set, fun _ L j g hg => ?_, fun _ p o hp => ?_⟩
  · rw [hint_keep hx] at hg
    obtain ⟨r, hr, k⟩ := L j g hg
    refine ⟨r, hr, ?_⟩
    rcases k with ⟨y, hy, ey⟩ | ⟨y, hy, ey, ty⟩
    · exact .inl ⟨y, (has_put hx).2 (.inr ⟨hy, fun q => hk1 _ _ hy q.2⟩), ey⟩
    · exact .inr ⟨y, (hint_keep hx).2 hy, ey, ty⟩
  · rcases hp with ⟨y, hy, ey⟩ | ⟨y, hy, ey⟩
    · exact .inl ⟨y, (has_put hx).2 (.inr ⟨hy, fun q => hk1 _ _ hy q.2⟩), ey⟩
    · exact .inr ⟨y, (hint_keep hx).2 hy, ey⟩
theorem move_step {l : List S36} {oid place : Int} (h : (moveF l oid place).2 = 0) : Step l (moveF l oid place).1 true := by
  obtain ⟨a, b, x, y, hh, m⟩ := move_ok h
  have M := m.moved
  have hv := check_vat m.chk
  obtain ⟨hid, hpl, ht⟩ := hh
  have e0 : hid = oid := m.f0
  subst e0
  have hold : ∀ j g, HintAt l j g → g.f0 = hid → g.f2 < ht + 1 := fun j g hg e => by
    have := hv.older a j _ g m.has hg e.symm
    dsimp only at this; omega
  refine ⟨m.chk2, m.len, fun _ L j g hg => ?_, fun _ p o hp => ?_⟩
  · rcases (M.hints j g).1 hg with ⟨rfl, rfl⟩ | ⟨hg, hn⟩
    · exact ⟨b, rfl, .inl ⟨⟨hid, b, ht + 1⟩, (M.has b _).2 (.inl ⟨rfl, rfl⟩), rfl⟩⟩
    · obtain ⟨r, hr, k⟩ := L j g hg
      refine ⟨r, hr, ?_⟩
      by_cases e : g.f0 = hid
      · rcases k with ⟨y', hy, ey⟩ | ⟨y', hy, ey, ty⟩
        · have : HasAt l r ⟨hid, hpl, ht⟩ := by
            rw [← hv.once r a y' _ hy m.has (by rw [ey, e])]; exact hy
          have hra : r = a := by
            have q1 := hv.here r _ this; have q2 := hv.here a _ m.has; omega
          subst hra
          exact .inr ⟨_, (M.hints r _).2 (.inl ⟨rfl, rfl⟩), by rw [e], hold j g hg e⟩
        · by_cases hb : r = b
          · exact .inl ⟨⟨hid, b, ht + 1⟩, (M.has r _).2 (.inl ⟨hb, rfl⟩), by rw [e]⟩
          · by_cases ha : r = a
            · subst ha
              exact absurd (ey.trans e).symm (hv.apart r _ y' m.has hy)
            · exact .inr ⟨y', (M.hints r _).2 (.inr ⟨hy, fun q => q.2.elim ha hb⟩), ey, ty⟩
      · rcases k with ⟨y', hy, ey⟩ | ⟨y', hy, ey, ty⟩
        · exact .inl ⟨y', (M.has r _).2 (.inr ⟨hy, fun q => e (ey.symm.trans q)⟩), ey⟩
        · exact .inr ⟨y', (M.hints r _).2 (.inr ⟨hy, fun q => e (ey.symm.trans q.1)⟩), ey, ty⟩
  · rcases hp with ⟨y', hy, ey⟩ | ⟨y', hy, ey⟩
    · by_cases e : o = hid
      · have : HasAt l p ⟨hid, hpl, ht⟩ := by
          rw [← hv.once p a y' _ hy m.has (by rw [ey, e])]; exact hy
        have hra : p = a := by
          have q1 := hv.here p _ this; have q2 := hv.here a _ m.has; omega
        exact .inr ⟨_, (M.hints p _).2 (.inl ⟨hra, rfl⟩), e.symm⟩
      · exact .inl ⟨y', (M.has p _).2 (.inr ⟨hy, fun q => e (ey.symm.trans q)⟩), ey⟩
    · by_cases e : o = hid
      · by_cases hb : p = b
        · exact .inl ⟨⟨hid, b, ht + 1⟩, (M.has p _).2 (.inl ⟨hb, rfl⟩), e.symm⟩
        · by_cases ha : p = a
          · exact .inr ⟨_, (M.hints p _).2 (.inl ⟨ha, rfl⟩), e.symm⟩
          · exact .inr ⟨y', (M.hints p _).2 (.inr ⟨hy, fun q => q.2.elim ha hb⟩), ey⟩
      · exact .inr ⟨y', (M.hints p _).2 (.inr ⟨hy, fun q => e (ey.symm.trans q.1)⟩), ey⟩
/-- a map some of whose places were told where an object is -/
structure Fed (l n : List S36) (h : S31) (a : Nat) : Prop where
  told : Told l n h
  has : HasAt n a h
  live : Live l → Live n
  knows : ∀ p oid, KnowsOf l p oid → KnowsOf n p oid
theorem fed_tell {l n : List S36} {h : S31} {a : Nat} (F : Fed l n h a) (hh : HintV l.length h) (h1 : h.f1 = (a : Int)) {i : Nat} {x : S36} (hi : n[i]? = some x) (hup : x.f0 = true) : Fed l (tellF n i h).2 h a := by
  have T := told_tell F.told hh hi hup
  refine ⟨T, ?_, ?_, ?_⟩
  · rcases tell_cases hi h with ⟨e, _⟩ | ⟨e, _, _⟩
    · rw [e]; exact F.has
    · rw [e]; exact (has_keep hi).2 F.has
  · intro L j g hg
    have L2 := F.live L
    rcases tell_cases hi h with ⟨e, _⟩ | ⟨e, c1, c2⟩
    · rw [e] at hg ⊢; exact L2 j g hg
    · rw [e] at hg ⊢
      dsimp only at hg ⊢
      rcases (hint_put hi).1 hg with ⟨rfl, rfl⟩ | ⟨hg, _⟩
      · exact ⟨a, h1, .inl ⟨g, (has_keep hi).2 F.has, rfl⟩⟩
      · obtain ⟨r, hr, k⟩ := L2 j g hg
        refine ⟨r, hr, ?_⟩
        rcases k with ⟨y, hy, ey⟩ | ⟨y, hy, ey, ty⟩
        · exact .inl ⟨y, (has_keep hi).2 hy, ey⟩
        · by_cases q : r = i ∧ y.f0 = h.f0
          · refine .inr ⟨h, (hint_put hi).2 (.inl ⟨q.1, rfl⟩), q.2.symm.trans ey, ?_⟩
            obtain ⟨q1, q2⟩ := q
            subst q1
            have hs := (F.told.vat.ok x (List.mem_of_getElem? hi)).hints.sorted
            obtain ⟨z1, z2⟩ := look_of_mem hs ((hint_in hi).1 hy)
            rw [q2] at z1 z2
            rw [z1, z2] at c2
            rcases c2 with c2 | c2
            · have := c2.2; omega
            · cases c2.1
          · exact .inr ⟨y, (hint_put hi).2 (.inr ⟨hy, q⟩), ey, ty⟩
  · intro p o hp
    have K2 := F.knows p o hp
    rcases tell_cases hi h with ⟨e, _⟩ | ⟨e, c1, c2⟩
    · rw [e]; exact K2
    · rw [e]
      dsimp only
      rcases K2 with ⟨y, hy, ey⟩ | ⟨y, hy, ey⟩
      · exact .inl ⟨y, (has_keep hi).2 hy, ey⟩
      · by_cases q : p = i ∧ y.f0 = h.f0
        · exact .inr ⟨h, (hint_put hi).2 (.inl ⟨q.1, rfl⟩), q.2.symm.trans ey⟩
        · exact .inr ⟨y, (hint_put hi).2 (.inr ⟨hy, q⟩), ey⟩
theorem feds {l : List S36} {h : S31} {a : Nat} (hh : HintV l.length h) (h1 : h.f1 = (a : Int)) : ∀ (ps : List Int) (n r : List S36), Fed l n h a → tellsF h ps n = some r → Fed l r h a
  | [], n, r, T, e => by
    unfold tellsF at e
    cases e
    exact T
  | p :: ps, n, r, T, e => by
    unfold tellsF at e
    by_cases c1 : (postA n p).f0 = true
    · rw [if_pos c1] at e
      by_cases c2 : (tellF n p.toNat h).1 = true
      · rw [if_pos c2] at e
        cases hx : n[p.toNat]? with
        | none => rw [post_none hx] at c1; cases c1
        | some x => exact feds hh h1 ps _ r (fed_tell T hh h1 hx (by rw [← post_is hx]; exact c1)) e
      · rw [if_neg c2] at e; cases e
    · rw [if_neg c1] at e
      exact feds hh h1 ps n r T e
theorem fed_step {l n : List S36} {h : S31} {a : Nat} (F : Fed l n h a) (hc : checkF l = true) : Step l n true := ⟨told_check F.told hc, F.told.len, fun _ => F.live, fun _ => F.knows⟩
theorem fed_refl {l : List S36} {h : S31} {a : Nat} (hc : checkF l = true) (hh : HasAt l a h) : Fed l l h a := ⟨told_refl (check_vat hc) hh, hh, fun h => h, fun _ _ h => h⟩
theorem search_step {l : List S36} {place oid : Int} (h0 : (searchF l place oid).2.2.2 = 0) : Step l (searchF l place oid).1 true := by
  obtain ⟨a, h, b, hc, ho, rfl, hbl, hup, hw, rfl, hf1, hh, hhv, hcase⟩ := search_ok h0
  rcases hcase with ⟨_, e⟩ | ⟨_, r, e1, e⟩
  · rw [e]; exact step_refl hc true
  · rw [e]
    exact fed_step (feds hhv hf1 _ _ _ (fed_refl hc hh) e1) hc
theorem whereF_ok {l : List S36} {oid : Int} (h : (whereF l oid).2 = 0) : checkF l = true ∧ whereL l oid = ((whereF l oid).1, true) := by
  unfold whereF at h ⊢
  by_cases c : givenC l (decide (1 ≤ oid)) [] = 0
  rotate_left
  · rw [if_neg c] at h; exact absurd h c
  rw [if_pos c] at h ⊢
  by_cases d : (whereL l oid).2 = true
  rotate_left
  · rw [if_neg d] at h; cases h
  rw [if_pos d]
  refine ⟨?_, Prod.ext rfl d⟩
  unfold givenC at c
  by_cases e : checkF l = true
  · exact e
  · rw [if_neg e] at c; cases c
theorem tell_step {l : List S36} {place oid : Int} (hw : (whereF l oid).2 = 0) (h : (tellG l place (whereF l oid).1).2 = 0) : Step l (tellG l place (whereF l oid).1).1 true := by
  obtain ⟨i, x, t⟩ := tell_ok h
  obtain ⟨hc, w⟩ := whereF_ok hw
  obtain ⟨a, y, ha, hy, hhas, h00, hhv⟩ := has_here (check_vat hc) (show (whereL l oid).2 = true by rw [w])
  rw [w] at ha hhas hhv
  rw [t.res]
  exact fed_step (fed_tell (fed_refl hc hhas) hhv ha t.at' t.up) hc
theorem forget_step {l : List S36} {place oid : Int} (h : (forgetF l place oid).2 = 0) : Step l (forgetF l place oid).1 false := by
  unfold forgetF at h ⊢
  by_cases c : givenC l (decide (1 ≤ oid)) [place] = 0
  rotate_left
  · rw [if_neg c] at h; exact absurd h c
  rw [if_pos c]
  obtain ⟨_, hc, _, _⟩ := given_in c
  obtain ⟨i, hpi, hil, hx⟩ := given_post c
  have hm := (check_iff l).1 hc
  have e1 : place.toNat = i := by omega
  rw [e1]
  have hv2 := vat_forget (check_vat hc) hx oid
  exact step_false ((check_iff _).2 ⟨by rw [List.length_set]; exact hm.one, by rw [List.length_set]; exact hm.most, by rw [List.length_set]; exact (vat_iff _ _).2 hv2⟩) List.length_set
theorem crash_step {l : List S36} {place : Int} (h : (crashF l place).2.2 = 0) : Step l (crashF l place).1 false := by
  obtain ⟨i, x, t⟩ := crash_ok h
  rw [t.crash]
  exact step_false t.chk2 List.length_set
theorem recover_step {l : List S36} {place : Int} {back : List S31} (h : (recoverF l place back).2 = 0) : Step l (recoverF l place back).1 false := by
  unfold recoverF at h ⊢
  by_cases c : givenC l true [place] = 0
  rotate_left
  · rw [if_neg c] at h; exact absurd h c
  rw [if_pos c] at h ⊢
  by_cases d : (postA l place).f0 = true
  · rw [if_pos d] at h; cases h
  rw [if_neg d] at h ⊢
  by_cases e : validF (backL l place back) l.length = true
  rotate_left
  · rw [if_neg e] at h; cases h
  rw [if_pos e]
  obtain ⟨_, hc, _, _⟩ := given_in c
  have hm := (check_iff l).1 hc
  have hl : (backL l place back).length = l.length := List.length_set
  refine step_false ((check_iff _).2 ⟨by rw [hl]; exact hm.one, by rw [hl]; exact hm.most, by rw [hl]; exact (valid_iff _ _).1 e⟩) hl
theorem keep_step {l : List S36} (hc : checkF l = true) {o : List S36 × Int} {plain : Bool} (h : o.2 = 0 → Step l o.1 plain) : Step l (keepF l o plain).1 (keepF l o plain).2 := by
  unfold keepF
  by_cases c : o.2 = 0
  · rw [if_pos c]; exact h c
  · rw [if_neg c]; exact step_refl hc true
theorem act_step {l : List S36} (hc : checkF l = true) (kind a b : Int) : Step l (actF l kind a b).1 (actF l kind a b).2 := by
  unfold actF
  by_cases c : l.length = 0
  · rw [if_pos c]; exact step_refl hc true
  rw [if_neg c]
  refine keep_step hc (fun h => ?_)
  unfold actO at h ⊢
  generalize pickI kind 9 = k at h ⊢
  generalize pickI a l.length = p at h ⊢
  generalize 1 + pickI b 4 = o at h ⊢
  by_cases k1 : k = 0 ∨ k = 1
  · rw [if_pos k1] at h ⊢; exact make_step h
  rw [if_neg k1] at h ⊢
  by_cases k2 : k = 2 ∨ k = 3 ∨ k = 4
  · rw [if_pos k2] at h ⊢; exact move_step h
  rw [if_neg k2] at h ⊢
  by_cases k3 : k = 5
  · rw [if_pos k3] at h ⊢; exact search_step h
  rw [if_neg k3] at h ⊢
  by_cases k4 : k = 6
  · rw [if_pos k4] at h ⊢
    dsimp only at h ⊢
    by_cases w : (whereF l o).2 = 0
    · rw [if_pos w] at h ⊢; exact tell_step w h
    · rw [if_neg w] at h; cases h
  rw [if_neg k4] at h ⊢
  by_cases k5 : k = 7
  · rw [if_pos k5] at h ⊢; exact forget_step h
  rw [if_neg k5] at h ⊢
  dsimp only at h ⊢
  by_cases w : (postA l p).f0 = true
  · rw [if_pos w] at h ⊢; exact crash_step h
  · rw [if_neg w] at h ⊢; exact recover_step h
/-- what stays, deed by deed -/
structure Deeds (n : Nat) (oid : Int) (m : List S36) (plain : Bool) (was : List Bool) : Prop where
  chk : checkF m = true
  len : m.length = n
  wlen : was.length = n
  live : plain = true → Live m
  knows : plain = true → ∀ p : Nat, was[p]? = some true → KnowsOf m p oid
def markF (was : List Bool) (m : List S36) (oid : Int) : List Bool := if (whereF m oid).2 = 0 then was.set (whereF m oid).1.f1.toNat true else was
theorem deeds_start {n : Nat} (h1 : 1 ≤ n) (h2 : n ≤ 16) (oid : Int) : Deeds n oid (newL n) true (List.replicate n false) := by
  have hp : ∀ p ∈ newL n, p = ⟨true, [], []⟩ := fun p h => (List.mem_replicate.1 h).2
  have k1 : ∀ j z, ¬ HasAt (newL n) j z := fun j z ⟨p, hp1, hz⟩ => by
    rw [hp p (List.mem_of_getElem? hp1)] at hz; cases hz
  have k2 : ∀ j z, ¬ HintAt (newL n) j z := fun j z ⟨p, hp1, hz⟩ => by
    rw [hp p (List.mem_of_getElem? hp1)] at hz; cases hz
  have hl : (newL n).length = n := List.length_replicate
  refine ⟨(check_iff _).2 ⟨by rw [hl]; exact h1, by rw [hl]; exact h2, (vat_iff _ _).2 ⟨fun p h => ?_, fun j h a => absurd a (k1 _ _), fun j g h a => absurd a (k1 _ _), fun a b g h c => absurd c (k1 _ _), fun a b g h c => absurd c (k2 _ _), fun a b g h c => absurd c (k1 _ _)⟩⟩, hl, List.length_replicate, fun _ i g h => absurd h (k2 _ _), fun _ p h => ?_⟩
  · rw [hp p h]; exact ⟨listed_nil _, listed_nil _, fun e => by cases e⟩
  · have := List.mem_of_getElem? h
    rw [List.mem_replicate] at this; cases this.2
theorem where_at {m : List S36} {oid : Int} (h : (whereF m oid).2 = 0) : ∃ a : Nat, (whereF m oid).1.f1 = (a : Int) ∧ a < m.length ∧ (whereF m oid).1.f0 = oid ∧ HasAt m a (whereF m oid).1 := by
  obtain ⟨hc, w⟩ := whereF_ok h
  obtain ⟨a, y, ha, hy, hhas, h00, hhv⟩ := has_here (check_vat hc) (show (whereL m oid).2 = true by rw [w])
  rw [w] at ha h00 hhas
  obtain ⟨hl, _⟩ := List.getElem?_eq_some_iff.1 hy
  exact ⟨a, ha, hl, h00, hhas⟩
theorem deeds_step {n : Nat} {oid : Int} {m : List S36} {plain : Bool} {was : List Bool} (D : Deeds n oid m plain was) (kind a b : Int) : Deeds n oid (actF m kind a b).1 (plain && (actF m kind a b).2) (markF was (actF m kind a b).1 oid) := by
  have S := act_step D.chk kind a b
  generalize actF m kind a b = r at S ⊢
  obtain ⟨m2, k⟩ := r
  dsimp only at S ⊢
  refine ⟨S.chk, S.len.trans D.len, ?_, fun e => ?_, fun e p hp => ?_⟩
  · unfold markF; split
    · rw [List.length_set]; exact D.wlen
    · exact D.wlen
  · rw [Bool.and_eq_true] at e
    exact S.live e.2 (D.live e.1)
  · rw [Bool.and_eq_true] at e
    unfold markF at hp
    by_cases c : (whereF m2 oid).2 = 0
    · rw [if_pos c] at hp
      obtain ⟨q, hq, hql, ho, hh⟩ := where_at c
      rw [hq, Int.toNat_natCast, List.getElem?_set] at hp
      by_cases f : q = p
      · exact .inl ⟨_, by rw [← f]; exact hh, ho⟩
      · rw [if_neg f] at hp
        exact S.knows e.2 p oid (D.knows e.1 p hp)
    · rw [if_neg c] at hp
      exact S.knows e.2 p oid (D.knows e.1 p hp)
/-! the places at which following comes by -/
theorem path_new (l : List S36) (oid : Int) : ∀ (f : Nat) (p t : Int), (∀ q ∈ (stepsR (nxH l oid) f p t).dropLast, newer oid t (postA l q) = true ∧ ¬ atB (postA l q).f1 oid = true) ∧ (stepsR (nxH l oid) f p t).dropLast.Nodup
  | 0, p, t => ⟨fun q hq => (by cases hq), List.nodup_nil⟩
  | f + 1, p, t => by
    by_cases hgo : (nxH l oid p t).1.2 = true
    rotate_left
    · rw [stepsR_stop hgo]
      exact ⟨fun q hq => (by cases hq), List.nodup_nil⟩
    have c1 : ¬ atB (postA l p).f1 oid = true := fun c => by unfold nxH at hgo; rw [if_pos c] at hgo; cases hgo
    have c2 : newer oid t (postA l p) = true := by
      unfold nxH at hgo
      rw [if_neg c1] at hgo
      unfold newer
      by_cases c2 : (atB (postA l p).f2 oid && decide (t < (lookL (postA l p).f2 oid).f2)) = true
      · exact c2
      · rw [if_neg c2] at hgo; cases hgo
    have ev : nxH l oid p t = (((lookL (postA l p).f2 oid).f1, true), (lookL (postA l p).f2 oid).f2) := by
      have c2' := c2
      unfold newer at c2'
      unfold nxH
      rw [if_neg c1, if_pos c2']
    rw [stepsR_go ev]
    obtain ⟨i1, i2⟩ := path_new l oid f (lookL (postA l p).f2 oid).f1 (lookL (postA l p).f2 oid).f2
    have c3 := c2
    unfold newer at c3
    rw [Bool.and_eq_true, decide_eq_true_iff] at c3
    generalize stepsR (nxH l oid) f (lookL (postA l p).f2 oid).f1 (lookL (postA l p).f2 oid).f2 = R at i1 i2 ⊢
    cases R with
    | nil => exact ⟨fun q hq => (by cases hq), List.nodup_nil⟩
    | cons r R =>
      rw [List.dropLast_cons_of_ne_nil (List.cons_ne_nil _ _)]
      have up : ∀ q ∈ (r :: R).dropLast, newer oid t (postA l q) = true ∧ ¬ atB (postA l q).f1 oid = true := fun q hq => by
        obtain ⟨j1, j2⟩ := i1 q hq
        refine ⟨?_, j2⟩
        unfold newer at j1 ⊢
        rw [Bool.and_eq_true, decide_eq_true_iff] at j1 ⊢
        exact ⟨j1.1, by omega⟩
      refine ⟨fun q hq => ?_, List.nodup_cons.2 ⟨fun hq => ?_, i2⟩⟩
      · rcases List.mem_cons.1 hq with rfl | hq
        · exact ⟨c2, c1⟩
        · exact up q hq
      · have := (i1 p hq).1
        unfold newer at this
        rw [Bool.and_eq_true, decide_eq_true_iff] at this
        omega
theorem found_path {l : List S36} {n : Int} (hv : Vat l n) (L : Live l) (oid : Int) : ∀ (f : Nat) (p t : Int), rho l oid t + 2 ≤ f → (atB (postA l p).f1 oid = true ∨ newer oid t (postA l p) = true) → foundB l oid (stepsR (nxH l oid) f p t) = true
  | 0, _, _, h0, _ => by omega
  | f + 1, p, t, h0, hk => by
    by_cases c1 : atB (postA l p).f1 oid = true
    · rw [stay_nxH c1]
      unfold foundB
      rw [lastI_one]; exact c1
    have c2 := hk.resolve_left c1
    have ev : nxH l oid p t = (((lookL (postA l p).f2 oid).f1, true), (lookL (postA l p).f2 oid).f2) := by
      unfold nxH
      unfold newer at c2
      rw [if_neg c1, if_pos c2]
    have hb : atB (postA l p).f2 oid = true := by unfold newer at c2; rw [Bool.and_eq_true] at c2; exact c2.1
    have hm := post_mem l p _ hb
    have hr := rho_lt (t := t) hm c2
    obtain ⟨a1, a2⟩ := at_found hb
    obtain ⟨j, hj⟩ := hint_of hm a1
    obtain ⟨r, hr1, hr2⟩ := L j _ hj
    rw [stepsR_go ev]
    have ih := found_path hv L oid f (lookL (postA l p).f2 oid).f1 (lookL (postA l p).f2 oid).f2 (by omega) (by
      rw [hr1]
      rcases hr2 with ⟨y, ⟨x, hx, hy⟩, ey⟩ | ⟨y, ⟨x, hx, hy⟩, ey, ty⟩
      · left
        rw [postA_some hx]
        have := at_of_mem (hv.ok x (List.mem_of_getElem? hx)).has.sorted hy
        rw [ey, a2] at this; exact this
      · right
        unfold newer
        rw [postA_some hx]
        obtain ⟨z1, z2⟩ := look_of_mem (hv.ok x (List.mem_of_getElem? hx)).hints.sorted hy
        rw [ey, a2] at z1 z2
        rw [z1, z2, decide_eq_true ty]; rfl)
    have ne : stepsR (nxH l oid) f (lookL (postA l p).f2 oid).f1 (lookL (postA l p).f2 oid).f2 ≠ [] := by
      cases f with
      | zero => omega
      | succ f => exact steps_ne _ _ _ _
    unfold foundB at ih ⊢
    rw [lastI_cons p ne]
    exact ih
theorem last_nodup {l : List Int} (h : l ≠ []) (h1 : l.dropLast.Nodup) (h2 : lastI l ∉ l.dropLast) : l.Nodup := by
  have e : lastI l = l.getLast h := by
    unfold lastI
    rw [List.getD_eq_getElem?_getD, List.getLast_eq_getElem, List.getElem?_eq_getElem (by have := List.length_pos_iff.2 h; omega)]
    rfl
  rw [← List.dropLast_concat_getLast h]
  rw [List.nodup_append]
  refine ⟨h1, List.pairwise_singleton _ _, fun a ha b hb q => ?_⟩
  rw [List.mem_singleton] at hb
  subst q
  rw [hb] at ha
  rw [e] at h2
  exact h2 ha
structure PathOk (m : List S36) (place oid : Int) (n : Nat) (plain wasP : Bool) (l : List Int) (is : Bool) : Prop where
  res : followF m place oid = (l, is, 0)
  pl : 0 ≤ place ∧ place < n
  len : l.length ≤ n + 1
  ne : l ≠ []
  but : l.dropLast.Nodup
  all : plain = true → l.Nodup
  found : plain = true → wasP = true → is = true
theorem follow_ok {n : Nat} {oid place : Int} {m : List S36} {plain : Bool} {was : List Bool} (D : Deeds n oid m plain was) (h : (followF m place oid).2.2 = 0) : ∃ l is, PathOk m place oid n plain (was.getD place.toNat false) l is := by
  unfold followF at h
  by_cases c : givenC m (decide (1 ≤ oid)) [place] = 0
  rotate_left
  · rw [if_neg c] at h; exact absurd h c
  obtain ⟨i, hpi, hil, hx⟩ := given_post c
  have hv := check_vat D.chk
  have hne : followL m oid place ≠ [] := by unfold followL; exact steps_ne _ _ _ _
  obtain ⟨p1, p2⟩ := path_new m oid 1099511627778 place (-1)
  have hr := rho_le m oid (-1)
  have hm16 := ((check_iff m).1 D.chk).most
  have fnd : Live m → KnowsOf m i oid → foundB m oid (followL m oid place) = true := fun L k => by
    refine found_path hv L oid _ place (-1) (by omega) ?_
    rw [hpi]
    rcases k with ⟨y, ⟨x, hx, hy⟩, ey⟩ | ⟨y, ⟨x, hx, hy⟩, ey⟩
    · left
      rw [postA_some hx]
      have := at_of_mem (hv.ok x (List.mem_of_getElem? hx)).has.sorted hy
      rw [ey] at this; exact this
    · right
      unfold newer
      rw [postA_some hx]
      have hok := (hv.ok x (List.mem_of_getElem? hx)).hints
      obtain ⟨z1, z2⟩ := look_of_mem hok.sorted hy
      have := (hok.all y hy).2.1
      rw [ey] at z1 z2
      rw [z1, z2, decide_eq_true (by omega)]; rfl
  refine ⟨followL m oid place, foundB m oid (followL m oid place), ?_, by have := D.len; omega, ?_, hne, p2, fun e => ?_, fun e w => ?_⟩
  · unfold followF; rw [if_pos c]
  · have := follow_len m oid place; rw [D.len] at this; exact this
  · by_cases k : newer oid (-1) (postA m place) = true ∨ atB (postA m place).f1 oid = true
    · have hf : foundB m oid (followL m oid place) = true := found_path hv (D.live e) oid _ place (-1) (by omega) k.symm
      refine last_nodup hne p2 (fun q => ?_)
      exact (p1 _ q).2 hf
    · have : followL m oid place = [place] := by
        unfold followL
        refine stepsR_stop (f := 1099511627777) (fun hgo => k ?_)
        unfold nxH at hgo
        by_cases c1 : atB (postA m place).f1 oid = true
        · exact .inr c1
        · rw [if_neg c1] at hgo
          by_cases c2 : (atB (postA m place).f2 oid && decide (-1 < (lookL (postA m place).f2 oid).f2)) = true
          · exact .inl c2
          · rw [if_neg c2] at hgo; cases hgo
      rw [this]; exact List.pairwise_singleton _ _
  · refine fnd (D.live e) (D.knows e i ?_)
    rw [List.getD_eq_getElem?_getD] at w
    rw [hpi, Int.toNat_natCast] at w
    cases hw : was[i]? with
    | none => rw [hw] at w; cases w
    | some v => rw [hw] at w; rw [show v = true from w]
end Go.Proofs.Ytjnceoohlcchnaa.Print

-- written by wip/dev/pprint.py (over the kit's printer), laid by relay.py
namespace Go.Proofs.Ytjnceoohlcchnaa.Print
open Go.RowKit Go.Proofs.YtjnceoohlcchnaaW.PrintWords Go.Proofs.YtjnceoohlcchnaaW.PrintLast Go.Proofs.YtjnceoohlcchnaaW.PrintMore
attribute [local go_sem] max2_int min2_int max_two min_two max_three min_three max_four min_four   -- for this text's walks alone
set_option linter.unusedVariables false
set_option linter.unusedSimpArgs false



/-! ### beryllaw17_pick: function 85 -/
def beryllaw17_pick.f (a0 : Int) (a1 : Int) : Option (Int) := if a1 = 0 then (none) else (if (Int.tmod a0 a1) < 0 then (some (wrap64 ((Int.tmod a0 a1) + a1))) else (some (Int.tmod a0 a1)))
set_option maxHeartbeats 8000000 in
set_option maxRecDepth 100000 in
theorem beryllaw17_pick.calls (a0 : Int) (a1 : Int) (r : Int) (w : World) (h : beryllaw17_pick.f a0 a1 = some r) :
    Calls Try.prog 85 #[.int .i64 a0, .int .i64 a1] w fun e w' => e = .returned (.int .i64 r) ∧ Drawn0 w w' := by
  have H : (if a1 = 0 then (none) else (if (Int.tmod a0 a1) < 0 then (some (wrap64 ((Int.tmod a0 a1) + a1))) else (some (Int.tmod a0 a1)))) = some r := h
  clear h
  by_cases c3 : a1 = 0
  · rw [if_pos c3] at H
    exact absurd H (by simp)
  · rw [if_neg c3] at H
    have c3b0 : (a1 == 0) = false := beq_eq_false_iff_ne.mpr c3
    have c3b1 : (a1 != 0) = true := bne_iff_ne.mpr c3
    by_cases c4 : (Int.tmod a0 a1) < 0
    · rw [if_pos c4] at H
      have c4b0 : decide ((Int.tmod a0 a1) < 0) = true := decide_eq_true c4
      clear c4
      obtain rfl := Option.some.inj H
      go_enter Try.func85, Try.ntmps85
      go_wp2
      go_ret
      exact ⟨by first | rfl | (simp; done) | (simp [*]; done), by repeat (first | exact Drawn0.refl _ | apply Drawn0.step)⟩
    · rw [if_neg c4] at H
      have c4b0 : decide ((Int.tmod a0 a1) < 0) = false := decide_eq_false c4
      clear c4
      obtain rfl := Option.some.inj H
      go_enter Try.func85, Try.ntmps85
      go_wp2
      go_ret
      exact ⟨by first | rfl | (simp; done) | (simp [*]; done), by repeat (first | exact Drawn0.refl _ | apply Drawn0.step)⟩

-- NOT PRINTED: function 39 (beryllaw17_act)

/-! ### beryllaw17_distinct: function 40 -/
mutual
def beryllaw17_distinct.l0 : Nat → List Int → Bool → Int → Option (Bool)
  | 0, _, _, _ => none
  | k + 1, x0, x1, x5 => if x5 < (x0.length : Int) then (beryllaw17_distinct.l1 k x0 x1 x5 0) else (some true)
def beryllaw17_distinct.l1 : Nat → List Int → Bool → Int → Int → Option (Bool)
  | 0, _, _, _, _ => none
  | k + 1, x0, x1, x5, x6 => if x6 < x5 then (if 0 ≤ x5 then (if x5 < (x0.length : Int) then (if 0 ≤ x6 then (if x6 < (x0.length : Int) then (if (rd x0 x5) = (rd x0 x6) then (if x1 = true then (if x5 < (wrap64 ((x0.length : Int) - 1)) then (some false) else (beryllaw17_distinct.l1 k x0 x1 x5 (wrap64 (x6 + 1)))) else (some false)) else (beryllaw17_distinct.l1 k x0 x1 x5 (wrap64 (x6 + 1)))) else (none)) else (none)) else (none)) else (none)) else (beryllaw17_distinct.l0 k x0 x1 (wrap64 (x5 + 1)))
end
def beryllaw17_distinct.f (k : Nat) (l0 : List Int) (a1 : Bool) : Option (Bool) := beryllaw17_distinct.l0 k l0 a1 0
theorem beryllaw17_distinct.mono_l : ∀ k, (∀ y0 y1 y2, LeO (beryllaw17_distinct.l0 k y0 y1 y2) (beryllaw17_distinct.l0 (k + 1) y0 y1 y2)) ∧ (∀ y0 y1 y2 y3, LeO (beryllaw17_distinct.l1 k y0 y1 y2 y3) (beryllaw17_distinct.l1 (k + 1) y0 y1 y2 y3))
  | 0 => ⟨fun _ _ _ r h => by simp [beryllaw17_distinct.l0] at h, fun _ _ _ _ r h => by simp [beryllaw17_distinct.l1] at h⟩
  | k + 1 => by
    obtain ⟨ih0, ih1⟩ := beryllaw17_distinct.mono_l k
    refine ⟨?_, ?_⟩
    · intro y0 y1 y2
      unfold beryllaw17_distinct.l0
      repeat' first
      | (with_reducible exact ih0 _ _ _)
      | (with_reducible exact ih1 _ _ _ _)
      | (with_reducible exact LeO.refl _)
      | (with_reducible exact LeO.none _)
      | (with_reducible refine LeO.ite ?_ ?_)
      | (with_reducible refine LeO.bind ?_ (fun _ => ?_))
      | exact ih0 _ _ _
      | exact ih1 _ _ _ _
      | exact LeO.none _
      | refine LeO.ite ?_ ?_
      | refine LeO.bind ?_ (fun _ => ?_)
    · intro y0 y1 y2 y3
      unfold beryllaw17_distinct.l1
      repeat' first
      | (with_reducible exact ih0 _ _ _)
      | (with_reducible exact ih1 _ _ _ _)
      | (with_reducible exact LeO.refl _)
      | (with_reducible exact LeO.none _)
      | (with_reducible refine LeO.ite ?_ ?_)
      | (with_reducible refine LeO.bind ?_ (fun _ => ?_))
      | exact ih0 _ _ _
      | exact ih1 _ _ _ _
      | exact LeO.none _
      | refine LeO.ite ?_ ?_
      | refine LeO.bind ?_ (fun _ => ?_)
theorem beryllaw17_distinct.mono : ∀ a0 a1 k, LeO (beryllaw17_distinct.f k a0 a1) (beryllaw17_distinct.f (k + 1) a0 a1) := by
  intro a0 a1 k
  obtain ⟨ih0, ih1⟩ := beryllaw17_distinct.mono_l k
  unfold beryllaw17_distinct.f
  repeat' first
      | (with_reducible exact ih0 _ _ _)
      | (with_reducible exact ih1 _ _ _ _)
      | (with_reducible exact LeO.refl _)
      | (with_reducible exact LeO.none _)
      | (with_reducible refine LeO.ite ?_ ?_)
      | (with_reducible refine LeO.bind ?_ (fun _ => ?_))
      | exact ih0 _ _ _
      | exact ih1 _ _ _ _
      | exact LeO.none _
      | refine LeO.ite ?_ ?_
      | refine LeO.bind ?_ (fun _ => ?_)
set_option maxHeartbeats 8000000 in
set_option maxRecDepth 100000 in
theorem beryllaw17_distinct.calls (k : Nat) (A0 : Option Addr) (c0 : Nat) (l0 : List Int) (a1 : Bool) (r : Bool) (w : World) (hr0 : Kd.C (Kd.int .i64) w A0 l0.length l0) (hc0 : l0.length ≤ c0) (h : beryllaw17_distinct.f k l0 a1 = some r) :
    Calls Try.prog 40 #[.slice A0 l0.length c0, .bool a1] w fun e w' => e = .returned (.bool r) ∧ Drawn0 w w' := by
  have HR0 := Aside0.mk hr0
  have HC0 := Aside0.mk hc0
  clear hr0 hc0
  have H : (beryllaw17_distinct.l0 k l0 a1 0) = some r := h
  clear h
  have H' := Aside0.mk H
  clear H
  go_enter Try.func40, Try.ntmps40
  go_wp2
  repeat (go_quiet (fail); try go_wp2)
  go_loopg [5] k (fun kq v5 w' => ∃ (x5_1 : Int), v5 = .int .i64 x5_1 ∧ Aside0 (beryllaw17_distinct.l0 kq l0 a1 x5_1 = some r) ∧ Aside0 (kq ≤ k) ∧ Drawn0 w w')
  case atStart => exact ⟨(0), (by first | rfl | (simp; done) | (simp [*]; done)), H', ⟨Nat.le_refl _⟩, by repeat (first | exact Drawn0.refl _ | apply Drawn0.step)⟩
  case round =>
    clear H'
    try clear p2
    obtain ⟨x5_1, rfl, HA, HK1, ⟨m1, rfl⟩⟩ := hrel
    cases gk with
    | zero => exact absurd HA.out (by simp [beryllaw17_distinct.l0])
    | succ k1 =>
      have H := HA.out
      clear HA
      simp only [beryllaw17_distinct.l0] at H
      by_cases c3 : x5_1 < (l0.length : Int)
      · rw [if_pos c3] at H
        have c3b0 : decide (x5_1 < (l0.length : Int)) = true := decide_eq_true c3
        clear c3
        have H' := Aside0.mk H
        clear H
        go_wp2
        repeat (go_quiet (fail); try go_wp2)
        go_loopg [6] k1 (fun kq v6 w' => ∃ (x6_2 : Int), v6 = .int .i64 x6_2 ∧ Aside0 (beryllaw17_distinct.l1 kq l0 a1 x5_1 x6_2 = some r) ∧ Aside0 (kq ≤ k1) ∧ Drawn0 w w')
        case atStart => exact ⟨(0), (by first | rfl | (simp; done) | (simp [*]; done)), H', ⟨Nat.le_refl _⟩, by repeat (first | exact Drawn0.refl _ | apply Drawn0.step)⟩
        case round =>
          clear H'
          try clear p2
          try clear c3
          try clear c3b0
          try clear p2
          obtain ⟨x6_2, rfl, HA, HK2, ⟨m2, rfl⟩⟩ := hrel
          cases gk with
          | zero => exact absurd HA.out (by simp [beryllaw17_distinct.l1])
          | succ k2 =>
            have H := HA.out
            clear HA
            simp only [beryllaw17_distinct.l1] at H
            by_cases c4 : x6_2 < x5_1
            · rw [if_pos c4] at H
              have c4b0 : decide (x6_2 < x5_1) = true := decide_eq_true c4
              clear c4
              by_cases c5 : 0 ≤ x5_1
              · rw [if_pos c5] at H
                have c5b0 : decide (0 ≤ x5_1) = true := decide_eq_true c5
                clear c5
                by_cases c6 : x5_1 < (l0.length : Int)
                · rw [if_pos c6] at H
                  have c6b0 : decide (x5_1 < (l0.length : Int)) = true := decide_eq_true c6
                  clear c6
                  by_cases c7 : 0 ≤ x6_2
                  · rw [if_pos c7] at H
                    have c7b0 : decide (0 ≤ x6_2) = true := decide_eq_true c7
                    clear c7
                    by_cases c8 : x6_2 < (l0.length : Int)
                    · rw [if_pos c8] at H
                      have c8b0 : decide (x6_2 < (l0.length : Int)) = true := decide_eq_true c8
                      clear c8
                      by_cases c9 : (rd l0 x5_1) = (rd l0 x6_2)
                      · rw [if_pos c9] at H
                        have c9b0 : ((rd l0 x5_1) == (rd l0 x6_2)) = true := beq_iff_eq.mpr c9
                        have c9b1 : ((rd l0 x5_1) != (rd l0 x6_2)) = false := bne_eq_false_iff_eq.mpr c9
                        clear c9
                        by_cases c10 : a1 = true
                        · subst c10
                          have H1 : (if x5_1 < (wrap64 ((l0.length : Int) - 1)) then (some false) else (beryllaw17_distinct.l1 k2 l0 true x5_1 (wrap64 (x6_2 + 1)))) = some r := by rw [if_pos rfl] at H; exact H
                          clear H
                          have H := H1
                          clear H1
                          by_cases c11 : x5_1 < (wrap64 ((l0.length : Int) - 1))
                          · rw [if_pos c11] at H
                            have c11b0 : decide (x5_1 < (wrap64 ((l0.length : Int) - 1))) = true := decide_eq_true c11
                            clear c11
                            obtain rfl := Option.some.inj H
                            have p395 : 0 ≤ (x5_1 : Int) := of_decide_eq_true (by first | (with_reducible assumption) | assumption)
                            have q395 : x5_1 < (l0.length : Int) := of_decide_eq_true (by first | (with_reducible assumption) | assumption)
                            obtain ⟨ad395, e395, hx395_0⟩ := Kd.at_int HR0.out x5_1 p395 q395
                            cases e395
                            replace p395 := eq_true p395
                            replace q395 := eq_true q395
                            have p396 : 0 ≤ (x6_2 : Int) := of_decide_eq_true (by first | (with_reducible assumption) | assumption)
                            have q396 : x6_2 < (l0.length : Int) := of_decide_eq_true (by first | (with_reducible assumption) | assumption)
                            obtain ⟨ad396, e396, hx396_0⟩ := Kd.at_int HR0.out x6_2 p396 q396
                            obtain rfl : ad395 = ad396 := (by injection e396)
                            replace p396 := eq_true p396
                            replace q396 := eq_true q396
                            go_wp2
                            repeat (go_quiet (fail); try go_wp2)
                            go_ret
                            exact ⟨by first | rfl | (simp; done) | (simp [*]; done), by repeat (first | exact Drawn0.refl _ | apply Drawn0.step)⟩
                          · rw [if_neg c11] at H
                            have c11b0 : decide (x5_1 < (wrap64 ((l0.length : Int) - 1))) = false := decide_eq_false c11
                            clear c11
                            have H' := Aside0.mk H
                            clear H
                            have p395 : 0 ≤ (x5_1 : Int) := of_decide_eq_true (by first | (with_reducible assumption) | assumption)
                            have q395 : x5_1 < (l0.length : Int) := of_decide_eq_true (by first | (with_reducible assumption) | assumption)
                            obtain ⟨ad395, e395, hx395_0⟩ := Kd.at_int HR0.out x5_1 p395 q395
                            cases e395
                            replace p395 := eq_true p395
                            replace q395 := eq_true q395
                            have p396 : 0 ≤ (x6_2 : Int) := of_decide_eq_true (by first | (with_reducible assumption) | assumption)
                            have q396 : x6_2 < (l0.length : Int) := of_decide_eq_true (by first | (with_reducible assumption) | assumption)
                            obtain ⟨ad396, e396, hx396_0⟩ := Kd.at_int HR0.out x6_2 p396 q396
                            obtain rfl : ad395 = ad396 := (by injection e396)
                            replace p396 := eq_true p396
                            replace q396 := eq_true q396
                            go_wp2
                            repeat (go_quiet (fail); try go_wp2)
                            go_roundg k2
                            case measure => have := HK1.out; have := HK2.out; omega
                            case rel => exact ⟨(wrap64 (x6_2 + 1)), (by first | rfl | (simp; done) | (simp [*]; done)), H', ⟨by have := HK1.out; have := HK2.out; omega⟩, by repeat (first | exact Drawn0.refl _ | apply Drawn0.step)⟩
                        · replace c10 := Bool.eq_false_iff.mpr c10
                          subst c10
                          have H1 : (some false) = some r := by rw [if_neg (show ¬ (false = true) by decide)] at H; exact H
                          clear H
                          have H := H1
                          clear H1
                          obtain rfl := Option.some.inj H
                          have p395 : 0 ≤ (x5_1 : Int) := of_decide_eq_true (by first | (with_reducible assumption) | assumption)
                          have q395 : x5_1 < (l0.length : Int) := of_decide_eq_true (by first | (with_reducible assumption) | assumption)
                          obtain ⟨ad395, e395, hx395_0⟩ := Kd.at_int HR0.out x5_1 p395 q395
                          cases e395
                          replace p395 := eq_true p395
                          replace q395 := eq_true q395
                          have p396 : 0 ≤ (x6_2 : Int) := of_decide_eq_true (by first | (with_reducible assumption) | assumption)
                          have q396 : x6_2 < (l0.length : Int) := of_decide_eq_true (by first | (with_reducible assumption) | assumption)
                          obtain ⟨ad396, e396, hx396_0⟩ := Kd.at_int HR0.out x6_2 p396 q396
                          obtain rfl : ad395 = ad396 := (by injection e396)
                          replace p396 := eq_true p396
                          replace q396 := eq_true q396
                          go_wp2
                          repeat (go_quiet (fail); try go_wp2)
                          go_ret
                          exact ⟨by first | rfl | (simp; done) | (simp [*]; done), by repeat (first | exact Drawn0.refl _ | apply Drawn0.step)⟩
                      · rw [if_neg c9] at H
                        have c9b0 : ((rd l0 x5_1) == (rd l0 x6_2)) = false := beq_eq_false_iff_ne.mpr c9
                        have c9b1 : ((rd l0 x5_1) != (rd l0 x6_2)) = true := bne_iff_ne.mpr c9
                        have H' := Aside0.mk H
                        clear H
                        have p395 : 0 ≤ (x5_1 : Int) := of_decide_eq_true (by first | (with_reducible assumption) | assumption)
                        have q395 : x5_1 < (l0.length : Int) := of_decide_eq_true (by first | (with_reducible assumption) | assumption)
                        obtain ⟨ad395, e395, hx395_0⟩ := Kd.at_int HR0.out x5_1 p395 q395
                        cases e395
                        replace p395 := eq_true p395
                        replace q395 := eq_true q395
                        have p396 : 0 ≤ (x6_2 : Int) := of_decide_eq_true (by first | (with_reducible assumption) | assumption)
                        have q396 : x6_2 < (l0.length : Int) := of_decide_eq_true (by first | (with_reducible assumption) | assumption)
                        obtain ⟨ad396, e396, hx396_0⟩ := Kd.at_int HR0.out x6_2 p396 q396
                        obtain rfl : ad395 = ad396 := (by injection e396)
                        replace p396 := eq_true p396
                        replace q396 := eq_true q396
                        go_wp2
                        repeat (go_quiet (fail); try go_wp2)
                        go_roundg k2
                        case measure => have := HK1.out; have := HK2.out; omega
                        case rel => exact ⟨(wrap64 (x6_2 + 1)), (by first | rfl | (simp; done) | (simp [*]; done)), H', ⟨by have := HK1.out; have := HK2.out; omega⟩, by repeat (first | exact Drawn0.refl _ | apply Drawn0.step)⟩
                    · rw [if_neg c8] at H
                      exact absurd H (by simp)
                  · rw [if_neg c7] at H
                    exact absurd H (by simp)
                · rw [if_neg c6] at H
                  exact absurd H (by simp)
              · rw [if_neg c5] at H
                exact absurd H (by simp)
            · rw [if_neg c4] at H
              have c4b0 : decide (x6_2 < x5_1) = false := decide_eq_false c4
              clear c4
              have H' := Aside0.mk H
              clear H
              go_wp2
              repeat (go_quiet (fail); try go_wp2)
              go_roundg k2
              case measure => have := HK1.out; have := HK2.out; omega
              case rel => exact ⟨(wrap64 (x5_1 + 1)), (by first | rfl | (simp; done) | (simp [*]; done)), H', ⟨by have := HK1.out; have := HK2.out; omega⟩, by repeat (first | exact Drawn0.refl _ | apply Drawn0.step)⟩
      · rw [if_neg c3] at H
        have c3b0 : decide (x5_1 < (l0.length : Int)) = false := decide_eq_false c3
        clear c3
        obtain rfl := Option.some.inj H
        go_wp2
        repeat (go_quiet (fail); try go_wp2)
        go_ret
        exact ⟨by first | rfl | (simp; done) | (simp [*]; done), by repeat (first | exact Drawn0.refl _ | apply Drawn0.step)⟩

-- NOT PRINTED: function 8 (beryllaw17_FindValid)
end Go.Proofs.Ytjnceoohlcchnaa.Print

/-! One deed, walked. -/
namespace Go.Proofs.Ytjnceoohlcchnaa.Print
open Go Go.RowKit Go.Deep Go.Proofs.YtjnceoohlcchnaaW.PrintWords Go.Proofs.YtjnceoohlcchnaaW.PrintLast Go.Proofs.YtjnceoohlcchnaaW.PrintMore

theorem pick_any (n k : Int) (hk : 1 ≤ k) (hk2 : k ≤ 1000000) (w : World) : Calls Try.prog 85 #[.int .i64 n, .int .i64 k] w fun e w' => e = .returned (.int .i64 (pickI n k)) ∧ Below w.heap.size w w' := by
  have hf : beryllaw17_pick.f n k = some (pickI n k) := by
    unfold beryllaw17_pick.f pickI
    rw [if_neg (by omega)]
    have h1 := Int.emod_nonneg n (show k ≠ 0 by omega)
    have h2 := Int.emod_lt_of_pos n (show 0 < k by omega)
    have e := Int.tmod_eq_emod (a := n) (b := k)
    by_cases c : 0 ≤ n ∨ k ∣ n
    · rw [if_pos c] at e
      rw [if_neg (by omega)]
      rw [e]; simp
    · rw [if_neg c] at e
      have h3 : n % k ≠ 0 := fun q => c (.inr (Int.dvd_of_emod_eq_zero q))
      rw [if_pos (by omega), show wrap64 (Int.tmod n k + k) = Int.tmod n k + k by unfold wrap64; omega]
      congr 1; omega
  refine (beryllaw17_pick.calls n k _ w hf).mono ?_
  rintro e w' ⟨rfl, ⟨nd, rfl⟩⟩
  exact ⟨rfl, pw_below_drewN (Below.refl _ _) nd⟩
/-- no number stands twice in the first m -/
def Dist (l : List Int) (m : Nat) : Prop := ∀ i k : Nat, k < i → i < m → l.getD i 0 ≠ l.getD k 0
theorem dist_nodup {l : List Int} (h : l.Nodup) : Dist l l.length := fun i k h1 h2 e => by
  rw [List.getD_eq_getElem?_getD, List.getD_eq_getElem?_getD, List.getElem?_eq_getElem h2, List.getElem?_eq_getElem (by omega)] at e
  have := (List.getElem_inj h (h₀ := h2) (h₁ := by omega)).1 e
  omega
theorem dist_but {l : List Int} (h : l.dropLast.Nodup) : Dist l (l.length - 1) := fun i k h1 h2 e => by
  have hd : l.dropLast.length = l.length - 1 := List.length_dropLast
  refine dist_nodup h i k h1 (by omega) ?_
  rw [List.getD_eq_getElem?_getD, List.getD_eq_getElem?_getD, List.getElem?_dropLast, List.getElem?_dropLast, if_pos (by omega), if_pos (by omega), ← List.getD_eq_getElem?_getD, ← List.getD_eq_getElem?_getD]
  exact e
theorem distinct_in (l : List Int) (last : Bool) (hl : l.length ≤ 1000000) (hd : Dist l (if last = true then l.length - 1 else l.length)) {i : Nat} (hi : i < l.length) {F : Nat} (h : beryllaw17_distinct.l0 F l last ((i + 1 : Nat) : Int) = some true) : ∀ d k : Nat, k + d = i → ∃ G, beryllaw17_distinct.l1 G l last (i : Int) (k : Int) = some true
  | 0, k, e => by
    refine ⟨F + 1, ?_⟩
    rw [beryllaw17_distinct.l1, if_neg (by omega), show wrap64 ((i : Int) + 1) = ((i + 1 : Nat) : Int) by unfold wrap64; omega]
    exact h
  | d + 1, k, e => by
    obtain ⟨G, hG⟩ := distinct_in l last hl hd hi h d (k + 1) (by omega)
    refine ⟨G + 1, ?_⟩
    rw [beryllaw17_distinct.l1, if_pos (by omega), if_pos (by omega), if_pos (by omega), if_pos (by omega), if_pos (by omega), show wrap64 ((k : Int) + 1) = ((k + 1 : Nat) : Int) by unfold wrap64; omega]
    by_cases c : rd l (i : Int) = rd l (k : Int)
    · rw [if_pos c]
      unfold rd at c
      rw [Int.toNat_natCast, Int.toNat_natCast] at c
      cases last with
      | false => exact absurd c (hd i k (by omega) (by simp; omega))
      | true =>
        have : ¬ i < l.length - 1 := fun q => hd i k (by omega) (by simp; omega) c
        rw [if_pos rfl, if_neg (by unfold wrap64; omega)]
        exact hG
    · rw [if_neg c]; exact hG
theorem distinct_l (l : List Int) (last : Bool) (hl : l.length ≤ 1000000) (hd : Dist l (if last = true then l.length - 1 else l.length)) : ∀ d i : Nat, i + d = l.length → ∃ F, beryllaw17_distinct.l0 F l last (i : Int) = some true
  | 0, i, e => ⟨1, by rw [beryllaw17_distinct.l0, if_neg (by omega)]⟩
  | d + 1, i, e => by
    obtain ⟨F, hF⟩ := distinct_l l last hl hd d (i + 1) (by omega)
    obtain ⟨G, hG⟩ := distinct_in l last hl hd (show i < l.length by omega) hF i 0 (by omega)
    refine ⟨G + 1, ?_⟩
    rw [beryllaw17_distinct.l0, if_pos (by omega)]
    exact hG
theorem distinct_any (A : Option Addr) (n c : Nat) (l : List Int) (last : Bool) (w : World) (hn : n = l.length) (hr : Kd.C (Kd.int .i64) w A l.length l) (hc : n ≤ c) (hl : l.length ≤ 1000000) (hd : Dist l (if last = true then l.length - 1 else l.length)) :
    Calls Try.prog 40 #[.slice A n c, .bool last] w fun e w' => e = .returned (.bool true) ∧ Below w.heap.size w w' := by
  subst hn
  obtain ⟨F, hF⟩ := distinct_l l last hl hd l.length 0 (by omega)
  refine (beryllaw17_distinct.calls F A c l last true w hr hc hF).mono ?_
  rintro e w' ⟨rfl, ⟨nd, rfl⟩⟩
  exact ⟨rfl, pw_below_drewN (Below.refl _ _) nd⟩
/-- what is tried is one of nine -/
theorem nine (k : Int) (h1 : 0 ≤ k) (h2 : k < 9) : k = 0 ∨ k = 1 ∨ k = 2 ∨ k = 3 ∨ k = 4 ∨ k = 5 ∨ k = 6 ∨ k = 7 ∨ k = 8 := by omega
set_option maxRecDepth 100000 in
set_option maxHeartbeats 16000000 in
theorem act_any (A : Option Addr) (n c : Nat) (m : List S36) (kind a b : Int) (w : World) (hn : n = m.length) (hr : Kd.C k36 w A m.length m) (hc : n ≤ c) (hm : m.length ≤ 20) (hs : Short m) :
    Calls Try.prog 39 #[.slice A n c, .int .i64 kind, .int .i64 a, .int .i64 b] w fun e w' => ∃ A2 c2, e = .returned (.tuple #[.slice A2 (actF m kind a b).1.length c2, .bool (actF m kind a b).2]) ∧ (actF m kind a b).1.length ≤ c2 ∧ Kd.C k36 w' A2 (actF m kind a b).1.length (actF m kind a b).1 ∧ Below w.heap.size w w' := by
  subst hn
  have HR := Aside0.mk hr
  have HS := Aside0.mk hs
  clear hr hs
  go_enter Try.func39, Try.ntmps39
  by_cases h0 : m.length = 0
  · have HV : Aside0 (actF m kind a b = (m, true)) := ⟨by unfold actF; rw [if_pos h0]⟩
    have HR0 := HR.out
    rw [h0] at HR0 hc
    have HL := Aside0.mk h0
    rw [h0]
    clear h0
    go_wp2_with fail
    go_returns
    exact ⟨A, c, by rw [HV.out, HL.out]; rfl, by rw [HV.out, HL.out]; exact hc, by rw [HV.out, HL.out]; exact HR0, Below.refl _ _⟩
  have d0 : ((m.length : Int) == 0) = false := beq_eq_false_iff_ne.2 (by omega)
  go_wp2_with fail
  refine (pick_any a m.length (by omega) (by omega) w).mono ?_
  rintro e w1 ⟨rfl, hB⟩
  have HB1 := Aside0.mk hB
  clear hB
  go_wp2_with fail
  refine (pick_any b 4 (by omega) (by omega) w1).mono ?_
  rintro e w2 ⟨rfl, hB⟩
  have HB2 := Aside0.mk (below_step HB1.out hB)
  clear hB HB1
  go_wp2_with fail
  refine (pick_any kind 9 (by omega) (by omega) w2).mono ?_
  rintro e w3 ⟨rfl, hB⟩
  have HB3 := Aside0.mk (below_step HB2.out hB)
  clear hB HB2
  have HK0 : Aside0 (actF m kind a b = keepF m (actO m (pickI kind 9) (pickI a m.length) (1 + pickI b 4)).1 (actO m (pickI kind 9) (pickI a m.length) (1 + pickI b 4)).2) := ⟨by unfold actF; rw [if_neg h0]⟩
  have hp : 0 ≤ pickI a m.length ∧ pickI a m.length < m.length := ⟨Int.emod_nonneg _ (by omega), Int.emod_lt_of_pos _ (by omega)⟩
  have hq : 0 ≤ pickI b 4 ∧ pickI b 4 < 4 := ⟨Int.emod_nonneg _ (by omega), Int.emod_lt_of_pos _ (by omega)⟩
  have hk := nine (pickI kind 9) (Int.emod_nonneg _ (by omega)) (Int.emod_lt_of_pos _ (by omega))
  have hw : wrap64 (1 + pickI b 4) = 1 + pickI b 4 := by unfold wrap64; omega
  rw [hw]
  clear hw
  obtain ⟨place, hpl⟩ : ∃ v, v = pickI a m.length := ⟨_, rfl⟩
  obtain ⟨oid, hoi⟩ : ∃ v, v = 1 + pickI b 4 := ⟨_, rfl⟩
  obtain ⟨k, hk0⟩ : ∃ v, v = pickI kind 9 := ⟨_, rfl⟩
  rw [← hpl] at hp
  rw [← hpl, ← hoi, ← hk0] at HK0 ⊢
  rw [← hk0] at hk
  obtain ⟨i, rfl⟩ : ∃ i : Nat, place = (i : Int) := ⟨place.toNat, by omega⟩
  clear hpl hoi hk0 hq d0
  rcases hk with rfl | rfl | rfl | rfl | rfl | rfl | rfl | rfl | rfl
  · have HK : Aside0 (actF m kind a b = keepF m (makeF m oid (i : Int)) true) := ⟨HK0.out⟩
    clear HK0
    go_wp2_with fail
    refine (Make_any A m.length c m oid (i : Int) w3 rfl (Kd.C_below HR.out HB3.out) hc HS.out).mono ?_
    rintro e w4 ⟨A4, c4, rfl, h4, hC4, hB⟩
    have HC4 := Aside0.mk hC4
    have HB4 := Aside0.mk (below_step HB3.out hB)
    clear hC4 hB
    obtain ⟨e0, he0⟩ : ∃ v, v = (makeF m oid (i : Int)).2 := ⟨_, rfl⟩
    obtain ⟨o0, ho0⟩ : ∃ v, v = (makeF m oid (i : Int)).1 := ⟨_, rfl⟩
    have HV : Aside0 (actF m kind a b = if e0 = 0 then (o0, true) else (m, true)) := ⟨by rw [HK.out]; unfold keepF; rw [he0, ho0]⟩
    rw [← ho0] at h4 HC4 ⊢
    rw [← he0]
    clear he0 ho0 HK
    by_cases c0 : e0 = 0
    · subst c0
      rw [if_pos rfl] at HV
      go_wp2_with fail
      go_returns
      exact ⟨A4, c4, by rw [HV.out]; rfl, by rw [HV.out]; exact h4, by rw [HV.out]; exact HC4.out, HB4.out⟩
    · have d0 : (e0 != 0) = true := bne_iff_ne.2 c0
      rw [if_neg c0] at HV
      go_wp2_with fail
      go_returns
      exact ⟨A, c, by rw [HV.out]; rfl, by rw [HV.out]; exact hc, by rw [HV.out]; exact Kd.C_below HR.out HB4.out, HB4.out⟩
  · have HK : Aside0 (actF m kind a b = keepF m (makeF m oid (i : Int)) true) := ⟨HK0.out⟩
    clear HK0
    go_wp2_with fail
    refine (Make_any A m.length c m oid (i : Int) w3 rfl (Kd.C_below HR.out HB3.out) hc HS.out).mono ?_
    rintro e w4 ⟨A4, c4, rfl, h4, hC4, hB⟩
    have HC4 := Aside0.mk hC4
    have HB4 := Aside0.mk (below_step HB3.out hB)
    clear hC4 hB
    obtain ⟨e0, he0⟩ : ∃ v, v = (makeF m oid (i : Int)).2 := ⟨_, rfl⟩
    obtain ⟨o0, ho0⟩ : ∃ v, v = (makeF m oid (i : Int)).1 := ⟨_, rfl⟩
    have HV : Aside0 (actF m kind a b = if e0 = 0 then (o0, true) else (m, true)) := ⟨by rw [HK.out]; unfold keepF; rw [he0, ho0]⟩
    rw [← ho0] at h4 HC4 ⊢
    rw [← he0]
    clear he0 ho0 HK
    by_cases c0 : e0 = 0
    · subst c0
      rw [if_pos rfl] at HV
      go_wp2_with fail
      go_returns
      exact ⟨A4, c4, by rw [HV.out]; rfl, by rw [HV.out]; exact h4, by rw [HV.out]; exact HC4.out, HB4.out⟩
    · have d0 : (e0 != 0) = true := bne_iff_ne.2 c0
      rw [if_neg c0] at HV
      go_wp2_with fail
      go_returns
      exact ⟨A, c, by rw [HV.out]; rfl, by rw [HV.out]; exact hc, by rw [HV.out]; exact Kd.C_below HR.out HB4.out, HB4.out⟩
  · have HK : Aside0 (actF m kind a b = keepF m (moveF m oid (i : Int)) true) := ⟨HK0.out⟩
    clear HK0
    go_wp2_with fail
    refine (Move_any A m.length c m oid (i : Int) w3 rfl (Kd.C_below HR.out HB3.out) hc HS.out).mono ?_
    rintro e w4 ⟨A4, c4, rfl, h4, hC4, hB⟩
    have HC4 := Aside0.mk hC4
    have HB4 := Aside0.mk (below_step HB3.out hB)
    clear hC4 hB
    obtain ⟨e0, he0⟩ : ∃ v, v = (moveF m oid (i : Int)).2 := ⟨_, rfl⟩
    obtain ⟨o0, ho0⟩ : ∃ v, v = (moveF m oid (i : Int)).1 := ⟨_, rfl⟩
    have HV : Aside0 (actF m kind a b = if e0 = 0 then (o0, true) else (m, true)) := ⟨by rw [HK.out]; unfold keepF; rw [he0, ho0]⟩
    rw [← ho0] at h4 HC4 ⊢
    rw [← he0]
    clear he0 ho0 HK
    by_cases c0 : e0 = 0
    · subst c0
      rw [if_pos rfl] at HV
      go_wp2_with fail
      go_returns
      exact ⟨A4, c4, by rw [HV.out]; rfl, by rw [HV.out]; exact h4, by rw [HV.out]; exact HC4.out, HB4.out⟩
    · have d0 : (e0 != 0) = true := bne_iff_ne.2 c0
      rw [if_neg c0] at HV
      go_wp2_with fail
      go_returns
      exact ⟨A, c, by rw [HV.out]; rfl, by rw [HV.out]; exact hc, by rw [HV.out]; exact Kd.C_below HR.out HB4.out, HB4.out⟩
  · have HK : Aside0 (actF m kind a b = keepF m (moveF m oid (i : Int)) true) := ⟨HK0.out⟩
    clear HK0
    go_wp2_with fail
    refine (Move_any A m.length c m oid (i : Int) w3 rfl (Kd.C_below HR.out HB3.out) hc HS.out).mono ?_
    rintro e w4 ⟨A4, c4, rfl, h4, hC4, hB⟩
    have HC4 := Aside0.mk hC4
    have HB4 := Aside0.mk (below_step HB3.out hB)
    clear hC4 hB
    obtain ⟨e0, he0⟩ : ∃ v, v = (moveF m oid (i : Int)).2 := ⟨_, rfl⟩
    obtain ⟨o0, ho0⟩ : ∃ v, v = (moveF m oid (i : Int)).1 := ⟨_, rfl⟩
    have HV : Aside0 (actF m kind a b = if e0 = 0 then (o0, true) else (m, true)) := ⟨by rw [HK.out]; unfold keepF; rw [he0, ho0]⟩
    rw [← ho0] at h4 HC4 ⊢
    rw [← he0]
    clear he0 ho0 HK
    by_cases c0 : e0 = 0
    · subst c0
      rw [if_pos rfl] at HV
      go_wp2_with fail
      go_returns
      exact ⟨A4, c4, by rw [HV.out]; rfl, by rw [HV.out]; exact h4, by rw [HV.out]; exact HC4.out, HB4.out⟩
    · have d0 : (e0 != 0) = true := bne_iff_ne.2 c0
      rw [if_neg c0] at HV
      go_wp2_with fail
      go_returns
      exact ⟨A, c, by rw [HV.out]; rfl, by rw [HV.out]; exact hc, by rw [HV.out]; exact Kd.C_below HR.out HB4.out, HB4.out⟩
  · have HK : Aside0 (actF m kind a b = keepF m (moveF m oid (i : Int)) true) := ⟨HK0.out⟩
    clear HK0
    go_wp2_with fail
    refine (Move_any A m.length c m oid (i : Int) w3 rfl (Kd.C_below HR.out HB3.out) hc HS.out).mono ?_
    rintro e w4 ⟨A4, c4, rfl, h4, hC4, hB⟩
    have HC4 := Aside0.mk hC4
    have HB4 := Aside0.mk (below_step HB3.out hB)
    clear hC4 hB
    obtain ⟨e0, he0⟩ : ∃ v, v = (moveF m oid (i : Int)).2 := ⟨_, rfl⟩
    obtain ⟨o0, ho0⟩ : ∃ v, v = (moveF m oid (i : Int)).1 := ⟨_, rfl⟩
    have HV : Aside0 (actF m kind a b = if e0 = 0 then (o0, true) else (m, true)) := ⟨by rw [HK.out]; unfold keepF; rw [he0, ho0]⟩
    rw [← ho0] at h4 HC4 ⊢
    rw [← he0]
    clear he0 ho0 HK
    by_cases c0 : e0 = 0
    · subst c0
      rw [if_pos rfl] at HV
      go_wp2_with fail
      go_returns
      exact ⟨A4, c4, by rw [HV.out]; rfl, by rw [HV.out]; exact h4, by rw [HV.out]; exact HC4.out, HB4.out⟩
    · have d0 : (e0 != 0) = true := bne_iff_ne.2 c0
      rw [if_neg c0] at HV
      go_wp2_with fail
      go_returns
      exact ⟨A, c, by rw [HV.out]; rfl, by rw [HV.out]; exact hc, by rw [HV.out]; exact Kd.C_below HR.out HB4.out, HB4.out⟩
  · have HK : Aside0 (actF m kind a b = keepF m (((searchF m (i : Int) oid).1, (searchF m (i : Int) oid).2.2.2)) true) := ⟨HK0.out⟩
    clear HK0
    go_wp2_with fail
    refine (Search_any A m.length c m (i : Int) oid w3 rfl (Kd.C_below HR.out HB3.out) hc HS.out).mono ?_
    rintro e w4 ⟨A4, c4, rfl, h4, hC4, hB⟩
    simp only [hintV]
    have HC4 := Aside0.mk hC4
    have HB4 := Aside0.mk (below_step HB3.out hB)
    clear hC4 hB
    obtain ⟨e0, he0⟩ : ∃ v, v = (searchF m (i : Int) oid).2.2.2 := ⟨_, rfl⟩
    obtain ⟨o0, ho0⟩ : ∃ v, v = (searchF m (i : Int) oid).1 := ⟨_, rfl⟩
    have HV : Aside0 (actF m kind a b = if e0 = 0 then (o0, true) else (m, true)) := ⟨by rw [HK.out]; unfold keepF; rw [he0, ho0]⟩
    rw [← ho0] at h4 HC4 ⊢
    rw [← he0]
    clear he0 ho0 HK
    by_cases c0 : e0 = 0
    · subst c0
      rw [if_pos rfl] at HV
      go_wp2_with fail
      go_returns
      exact ⟨A4, c4, by rw [HV.out]; rfl, by rw [HV.out]; exact h4, by rw [HV.out]; exact HC4.out, HB4.out⟩
    · have d0 : (e0 != 0) = true := bne_iff_ne.2 c0
      rw [if_neg c0] at HV
      go_wp2_with fail
      go_returns
      exact ⟨A, c, by rw [HV.out]; rfl, by rw [HV.out]; exact hc, by rw [HV.out]; exact Kd.C_below HR.out HB4.out, HB4.out⟩
  · go_wp2_with fail
    refine (Where_any A m.length c m oid w3 rfl (Kd.C_below HR.out HB3.out) hc HS.out).mono ?_
    rintro e w3b ⟨rfl, hB⟩
    simp only [hintV]
    obtain ⟨h, hh⟩ : ∃ v, v = (whereF m oid).1 := ⟨_, rfl⟩
    obtain ⟨w3', hw3⟩ : ∃ W, W = w3b.alloc (Obj.cells #[Value.int IntKind.i64 h.f0, Value.int IntKind.i64 h.f1, Value.int IntKind.i64 h.f2] 31) := ⟨_, rfl⟩
    have HB3' : Aside0 (Below w.heap.size w w3') := ⟨below_step HB3.out (by rw [hw3]; exact below_alloc hB _)⟩
    rw [← hh]
    have HH := Aside0.mk hh
    clear hh
    go_upto_region 24 with fail
    obtain ⟨gy, hgy⟩ : ∃ g, g = w3b.heap.size := ⟨_, rfl⟩
    rw [← hw3, ← hgy]
    have HY : Aside0 (w3'.heap[gy]? = some (.cells #[.int .i64 h.f0, .int .i64 h.f1, .int .i64 h.f2] 31 (0, 0))) := ⟨by rw [hw3, hgy]; exact heap_alloc_new _ _⟩
    clear hw3 hgy hB
    by_cases hw0 : (whereF m oid).2 = 0
    · have HK : Aside0 (actF m kind a b = keepF m (tellG m (i : Int) h) true) := ⟨by rw [HK0.out]; unfold actO; rw [if_neg (by omega), if_neg (by omega), if_neg (by omega), if_pos rfl, if_pos hw0, HH.out]⟩
      rw [hw0]
      clear HK0 hw0 HB3
      obtain ⟨k0, k1, k2, _, _, _⟩ := blk3 HY.out
      go_wp2_with fail
      refine (Tell_any A m.length c m (i : Int) h w3' rfl (Kd.C_below HR.out HB3'.out) hc HS.out).mono ?_
      rintro e w4 ⟨A4, c4, rfl, h4, hC4, hB⟩
      have HC4 := Aside0.mk hC4
      have HB4 := Aside0.mk (below_step HB3'.out hB)
      clear hC4 hB k0 k1 k2
      obtain ⟨e0, he0⟩ : ∃ v, v = (tellG m (i : Int) h).2 := ⟨_, rfl⟩
      obtain ⟨o0, ho0⟩ : ∃ v, v = (tellG m (i : Int) h).1 := ⟨_, rfl⟩
      have HV : Aside0 (actF m kind a b = if e0 = 0 then (o0, true) else (m, true)) := ⟨by rw [HK.out]; unfold keepF; rw [he0, ho0]⟩
      rw [← ho0] at h4 HC4 ⊢
      rw [← he0]
      clear he0 ho0 HK
      by_cases c0 : e0 = 0
      · subst c0
        rw [if_pos rfl] at HV
        go_wp2_with fail
        go_returns
        exact ⟨A4, c4, by rw [HV.out]; rfl, by rw [HV.out]; exact h4, by rw [HV.out]; exact HC4.out, HB4.out⟩
      · have d0 : (e0 != 0) = true := bne_iff_ne.2 c0
        rw [if_neg c0] at HV
        go_wp2_with fail
        go_returns
        exact ⟨A, c, by rw [HV.out]; rfl, by rw [HV.out]; exact hc, by rw [HV.out]; exact Kd.C_below HR.out HB4.out, HB4.out⟩
    · have HV : Aside0 (actF m kind a b = (m, true)) := ⟨by rw [HK0.out]; unfold actO; rw [if_neg (by omega), if_neg (by omega), if_neg (by omega), if_pos rfl, if_neg hw0]; rfl⟩
      obtain ⟨q, hq⟩ : ∃ q, q = (whereF m oid).2 := ⟨_, rfl⟩
      rw [← hq] at hw0 ⊢
      have dq : (q == 0) = false := beq_eq_false_iff_ne.2 hw0
      clear HK0 hw0 HB3 hq
      go_wp2_with fail
      go_returns
      exact ⟨A, c, by rw [HV.out]; rfl, by rw [HV.out]; exact hc, by rw [HV.out]; exact Kd.C_below HR.out HB3'.out, HB3'.out⟩
  · have HK : Aside0 (actF m kind a b = keepF m (forgetF m (i : Int) oid) false) := ⟨HK0.out⟩
    clear HK0
    go_wp2_with fail
    refine (forget_any A m.length c m (i : Int) oid w3 rfl (Kd.C_below HR.out HB3.out) hc HS.out).mono ?_
    rintro e w4 ⟨A4, c4, rfl, h4, hC4, hB⟩
    have HC4 := Aside0.mk hC4
    have HB4 := Aside0.mk (below_step HB3.out hB)
    clear hC4 hB
    obtain ⟨e0, he0⟩ : ∃ v, v = (forgetF m (i : Int) oid).2 := ⟨_, rfl⟩
    obtain ⟨o0, ho0⟩ : ∃ v, v = (forgetF m (i : Int) oid).1 := ⟨_, rfl⟩
    have HV : Aside0 (actF m kind a b = if e0 = 0 then (o0, false) else (m, true)) := ⟨by rw [HK.out]; unfold keepF; rw [he0, ho0]⟩
    rw [← ho0] at h4 HC4 ⊢
    rw [← he0]
    clear he0 ho0 HK
    by_cases c0 : e0 = 0
    · subst c0
      rw [if_pos rfl] at HV
      go_wp2_with fail
      go_returns
      exact ⟨A4, c4, by rw [HV.out]; rfl, by rw [HV.out]; exact h4, by rw [HV.out]; exact HC4.out, HB4.out⟩
    · have d0 : (e0 != 0) = true := bne_iff_ne.2 c0
      rw [if_neg c0] at HV
      go_wp2_with fail
      go_returns
      exact ⟨A, c, by rw [HV.out]; rfl, by rw [HV.out]; exact hc, by rw [HV.out]; exact Kd.C_below HR.out HB4.out, HB4.out⟩
  · obtain ⟨ad, x, A1, c1, A2, c2, rfl, hx, p0, _⟩ := post_at (Kd.C_below HR.out HB3.out) i (by omega)
    have hpx := postA_some hx
    obtain ⟨u, hu⟩ : ∃ u, u = x.f0 := ⟨_, rfl⟩
    rw [← hu] at p0
    have HK1 : Aside0 (actF m kind a b = keepF m (if u = true then ((crashF m (i : Int)).1, (crashF m (i : Int)).2.2) else recoverF m (i : Int) []) false) := ⟨by rw [HK0.out]; unfold actO; rw [if_neg (by omega), if_neg (by omega), if_neg (by omega), if_neg (by omega), if_neg (by omega), hpx, hu]⟩
    clear hx hpx hu HK0
    cases u with
    | true =>
      have HK : Aside0 (actF m kind a b = keepF m ((crashF m (i : Int)).1, (crashF m (i : Int)).2.2) false) := ⟨HK1.out⟩
      clear HK1
      go_wp2_with fail
      refine (Crash_any (some ad) m.length c m (i : Int) w3 rfl (Kd.C_below HR.out HB3.out) hc HS.out).mono ?_
      rintro e w4 ⟨A4, c4, A5, c5, rfl, h4, hC4, _, _, hB⟩
      have HC4 := Aside0.mk hC4
      have HB4 := Aside0.mk (below_step HB3.out hB)
      clear hC4 hB p0
      obtain ⟨e0, he0⟩ : ∃ v, v = (crashF m (i : Int)).2.2 := ⟨_, rfl⟩
      obtain ⟨o0, ho0⟩ : ∃ v, v = (crashF m (i : Int)).1 := ⟨_, rfl⟩
      have HV : Aside0 (actF m kind a b = if e0 = 0 then (o0, false) else (m, true)) := ⟨by rw [HK.out]; unfold keepF; rw [he0, ho0]⟩
      rw [← ho0] at h4 HC4 ⊢
      rw [← he0]
      clear he0 ho0 HK
      by_cases c0 : e0 = 0
      · subst c0
        rw [if_pos rfl] at HV
        go_wp2_with fail
        go_returns
        exact ⟨A4, c4, by rw [HV.out]; rfl, by rw [HV.out]; exact h4, by rw [HV.out]; exact HC4.out, HB4.out⟩
      · have d0 : (e0 != 0) = true := bne_iff_ne.2 c0
        rw [if_neg c0] at HV
        go_wp2_with fail
        go_returns
        exact ⟨some ad, c, by rw [HV.out]; rfl, by rw [HV.out]; exact hc, by rw [HV.out]; exact Kd.C_below HR.out HB4.out, HB4.out⟩
    | false =>
      have HK : Aside0 (actF m kind a b = keepF m (recoverF m (i : Int) []) false) := ⟨HK1.out⟩
      clear HK1
      go_wp2_with fail
      refine (Recover_any (some ad) none m.length c 0 0 m (i : Int) [] w3 rfl (Kd.C_below HR.out HB3.out) hc HS.out rfl (Kd.C_nil _ _) (Nat.le_refl _) (Nat.zero_le _)).mono ?_
      rintro e w4 ⟨A4, c4, rfl, h4, hC4, hB⟩
      have HC4 := Aside0.mk hC4
      have HB4 := Aside0.mk (below_step HB3.out hB)
      clear hC4 hB p0
      obtain ⟨e0, he0⟩ : ∃ v, v = (recoverF m (i : Int) []).2 := ⟨_, rfl⟩
      obtain ⟨o0, ho0⟩ : ∃ v, v = (recoverF m (i : Int) []).1 := ⟨_, rfl⟩
      have HV : Aside0 (actF m kind a b = if e0 = 0 then (o0, false) else (m, true)) := ⟨by rw [HK.out]; unfold keepF; rw [he0, ho0]⟩
      rw [← ho0] at h4 HC4 ⊢
      rw [← he0]
      clear he0 ho0 HK
      by_cases c0 : e0 = 0
      · subst c0
        rw [if_pos rfl] at HV
        go_wp2_with fail
        go_returns
        exact ⟨A4, c4, by rw [HV.out]; rfl, by rw [HV.out]; exact h4, by rw [HV.out]; exact HC4.out, HB4.out⟩
      · have d0 : (e0 != 0) = true := bne_iff_ne.2 c0
        rw [if_neg c0] at HV
        go_wp2_with fail
        go_returns
        exact ⟨some ad, c, by rw [HV.out]; rfl, by rw [HV.out]; exact hc, by rw [HV.out]; exact Kd.C_below HR.out HB4.out, HB4.out⟩
end Go.Proofs.Ytjnceoohlcchnaa.Print

/-! The law of valid maps, walked. -/
namespace Go.Proofs.Ytjnceoohlcchnaa.Print
open Go Go.RowKit Go.Deep Go.Proofs.YtjnceoohlcchnaaW.PrintWords Go.Proofs.YtjnceoohlcchnaaW.PrintLast Go.Proofs.YtjnceoohlcchnaaW.PrintMore

theorem make_bools (n : Nat) (hn : n ≤ 16) (w : World) : (Instr.makeSlice 56 (.int .i64 (n : Int)) (.int .i64 (n : Int))).run Try.prog w = .ok (.slice (some ⟨w.heap.size, 0, none⟩) n n) (w.alloc (.cells (madeCells #[.bool false] n) 4)) :=
  print_make_of (P := Try.prog) 56 4 (.bool false) 1 Try.underlying56 (by kernel_rfl) rfl (by omega) n (by omega) w
theorem made_bools (n : Nat) : madeCells #[.bool false] n = ((List.replicate n false).map Value.bool).toArray := by
  apply Array.ext
  · simp [madeCells]
  · intro i h1 h2
    simp [madeCells, Nat.mod_one]
/-- a block of truth values holds nothing else -/
theorem add_blk (ad : Addr) (n : Nat) : (ad.add n).block = ad.block := by
  unfold Addr.add; split <;> rfl
theorem add_more (ad : Addr) (n k : Nat) (hk : k ≠ 0) : ad.add (n + k) = ⟨(ad.add n).block, (ad.add n).off + k, none⟩ := by
  unfold Addr.add
  rw [if_neg (by omega)]
  by_cases h : n = 0
  · rw [if_pos h, h, Nat.zero_add]
  · rw [if_neg h, Nat.add_assoc]
/-- a block of truth values holds nothing else -/
theorem block_other {w : World} {gw : Nat} {u : Value} {t : TypeId} {was : List Bool} (hb : w.heap[gw]? = some (.cells (was.map Value.bool).toArray t (0, 0))) {p : Addr} (hp : w.cell? p = some u) (hu : ∀ b, u ≠ .bool b) : p.block ≠ gw := fun e => by
  unfold World.cell? at hp
  rw [e, hb] at hp
  dsimp only at hp
  by_cases c : p.spot.isSome = true
  · rw [if_pos c] at hp; cases hp
  · rw [if_neg c] at hp
    rw [List.getElem?_toArray, List.getElem?_map] at hp
    obtain ⟨b, _, hb2⟩ := Option.map_eq_some_iff.1 hp
    exact hu b hb2.symm
theorem cell_apart {w : World} {gw i : Nat} {v u : Value} {p : Addr} (hne : p.block ≠ gw) (h : w.cell? p = some u) : (w.setCell ⟨gw, i, none⟩ v).cell? p = some u := by
  unfold World.cell? at h ⊢
  rw [Below.heap_setCell w ⟨gw, i, none⟩ v p.block hne]
  exact h
theorem hints_apart {w : World} {gw i : Nat} {v : Value} {t : TypeId} {was : List Bool} (hb : w.heap[gw]? = some (.cells (was.map Value.bool).toArray t (0, 0))) {A : Option Addr} {l : List S31} (h : Kd.C k31 w A l.length l) : Kd.C k31 (w.setCell ⟨gw, i, none⟩ v) A l.length l := by
  refine ⟨rfl, h.2.1, fun h0 => ?_⟩
  obtain ⟨ad, _, rfl, _⟩ := hint_at h 0 h0
  refine ⟨ad, rfl, fun j x hx => ?_⟩
  obtain ⟨hj, _⟩ := List.getElem?_eq_some_iff.1 hx
  obtain ⟨ad2, x2, e, hx2, p0, p1, p2⟩ := hint_at h j hj
  cases e
  rw [hx] at hx2
  cases hx2
  refine ⟨_, rfl, k31_mk _ x, fun q u hu => ?_⟩
  have hne : ad.block ≠ gw := by have := block_other hb p0 (fun b => by simp); rwa [add_blk] at this
  rw [← add_more _ _ 1 (by omega)] at p1
  rw [← add_more _ _ 2 (by omega)] at p2
  match q, hu with
  | 0, hu => cases hu; exact cell_apart (p := ad.add (j * 3)) (by rw [add_blk]; exact hne) p0
  | 1, hu => cases hu; exact cell_apart (p := ad.add (j * 3 + 1)) (by rw [add_blk]; exact hne) p1
  | 2, hu => cases hu; exact cell_apart (p := ad.add (j * 3 + 2)) (by rw [add_blk]; exact hne) p2
theorem posts_apart {w : World} {gw i : Nat} {v : Value} {t : TypeId} {was : List Bool} (hb : w.heap[gw]? = some (.cells (was.map Value.bool).toArray t (0, 0))) {A : Option Addr} {l : List S36} (h : Kd.C k36 w A l.length l) : Kd.C k36 (w.setCell ⟨gw, i, none⟩ v) A l.length l := by
  refine ⟨rfl, h.2.1, fun h0 => ?_⟩
  obtain ⟨ad, _, _, _, _, _, rfl, _⟩ := post_at h 0 h0
  refine ⟨ad, rfl, fun j x hx => ?_⟩
  obtain ⟨hj, _⟩ := List.getElem?_eq_some_iff.1 hx
  obtain ⟨ad2, x2, A1, c1, A2, c2, e, hx2, p0, p1, p2, l1, g1, l2, g2⟩ := post_at h j hj
  cases e
  rw [hx] at hx2
  cases hx2
  refine ⟨_, rfl, k36_mk _ x l1 (hints_apart hb g1) l2 (hints_apart hb g2), fun q u hu => ?_⟩
  rw [← add_more _ _ 1 (by omega)] at p1
  rw [← add_more _ _ 2 (by omega)] at p2
  have hne : ad.block ≠ gw := by have := block_other hb p1 (fun b => by simp); rwa [add_blk] at this
  match q, hu with
  | 0, hu => cases hu; exact cell_apart (p := ad.add (j * 3)) (by rw [add_blk]; exact hne) p0
  | 1, hu => cases hu; exact cell_apart (p := ad.add (j * 3 + 1)) (by rw [add_blk]; exact hne) p1
  | 2, hu => cases hu; exact cell_apart (p := ad.add (j * 3 + 2)) (by rw [add_blk]; exact hne) p2
theorem mark_blk {w : World} {gw i : Nat} {t : TypeId} {was : List Bool} (hb : w.heap[gw]? = some (.cells (was.map Value.bool).toArray t (0, 0))) : (w.setCell ⟨gw, i, none⟩ (.bool true)).heap[gw]? = some (.cells ((was.set i true).map Value.bool).toArray t (0, 0)) :=
  blk_put hb i _ (by simp [List.map_set])
/-- what the loop keeps -/
def VRel (w : World) (n gw : Nat) (oid : Int) (l : List S31) (u10 u12 u14 : Value) (wr : World) : Prop :=
  ∃ (i : Nat) (m : List S36) (plain : Bool) (was : List Bool) (A : Option Addr) (c : Nat), u14 = .int .i64 (i : Int) ∧ u12 = .bool plain ∧ u10 = .slice A m.length c ∧ i ≤ l.length ∧ Aside0 (m.length ≤ c) ∧ Aside0 (Kd.C k36 wr A m.length m) ∧ Aside0 (Deeds n oid m plain was) ∧ Aside0 (wr.heap[gw]? = some (.cells (was.map Value.bool).toArray 4 (0, 0))) ∧ Aside0 (Below w.heap.size w wr)
set_option maxRecDepth 100000 in
set_option maxHeartbeats 16000000 in
theorem valid_walk (places : Int) (A1 : Option Addr) (c1 : Nat) (l : List S31) (place oid : Int) (w : World) (hr : Kd.C k31 w A1 l.length l) (hc : l.length ≤ c1) :
    Calls Try.prog 8 #[.int .i64 places, .slice A1 l.length c1, .int .i64 place, .int .i64 oid] w fun e w' => e = .returned (.bool true) ∧ Below w.heap.size w w' := by
  have HR := Aside0.mk hr
  clear hr
  have hu := Try.underlying31
  go_enter Try.func8, Try.ntmps8
  go_wp2_with fail
  refine (awake_any w).mono ?_
  rintro e w1 ⟨rfl, hB⟩
  have HB1 := Aside0.mk hB
  clear hB
  go_wp2_with fail
  refine (New_any places w1).mono ?_
  rintro e w2 ⟨A, c, rfl, h2, hC2, hB⟩
  have HB2 := Aside0.mk (below_step HB1.out hB)
  have HC2 := Aside0.mk hC2
  clear hB hC2 HB1
  by_cases hp : 1 ≤ places ∧ places ≤ 16
  rotate_left
  · have HV : Aside0 (newF places = ([], 1)) := ⟨by unfold newF; rw [if_neg hp]⟩
    rw [HV.out]
    clear hp h2 HC2
    go_wp2_with fail
    go_returns
    exact ⟨rfl, HB2.out⟩
  obtain ⟨n, rfl⟩ : ∃ n : Nat, places = (n : Int) := ⟨places.toNat, by omega⟩
  have HV : Aside0 (newF (n : Int) = (newL n, 0)) := ⟨by unfold newF; rw [if_pos hp, Int.toNat_natCast]⟩
  rw [HV.out] at h2 HC2 ⊢
  dsimp only at h2 HC2 ⊢
  by_cases hl : l.length ≤ 40
  rotate_left
  · have dl : decide ((40 : Int) < (l.length : Int)) = true := decide_eq_true (by omega)
    clear hp hl
    go_wp2_with fail
    go_returns
    exact ⟨rfl, HB2.out⟩
  have dl : decide ((40 : Int) < (l.length : Int)) = false := decide_eq_false (by omega)
  have hn1 : 1 ≤ n := by omega
  have hn2 : n ≤ 16 := by omega
  clear hp
  have hmk : ∀ W, (Instr.makeSlice 56 (.int .i64 (n : Int)) (.int .i64 (n : Int))).run Try.prog W = .ok (.slice (some ⟨W.heap.size, 0, none⟩) n n) (W.alloc (.cells (madeCells #[.bool false] n) 4)) := fun W => make_bools n hn2 W
  obtain ⟨gw, hgw⟩ : ∃ g, g = w2.heap.size := ⟨_, rfl⟩
  obtain ⟨w3, hw3⟩ : ∃ W, W = w2.alloc (.cells (madeCells #[.bool false] n) 4) := ⟨_, rfl⟩
  go_upto_region 7 with fail
  rw [← hw3, ← hgw]
  have hB23 : Below w2.heap.size w2 w3 := by rw [hw3]; exact below_alloc (Below.refl _ _) _
  have HB3 := Aside0.mk (below_step HB2.out hB23)
  have HC3 := Aside0.mk (Kd.C_below HC2.out hB23)
  have HW3 : Aside0 (w3.heap[gw]? = some (.cells ((List.replicate n false).map Value.bool).toArray 4 (0, 0))) := ⟨by rw [hw3, hgw, made_bools]; exact heap_alloc_new _ _⟩
  have HGW : Aside0 (w.heap.size ≤ gw) := ⟨by rw [hgw]; exact HB2.out.size⟩
  clear hw3 hgw hB23 hmk HC2 dl HV
  go_wp2_with fail
  go_loopw [10, 12, 14] (fun u10 u12 u14 wr => VRel w n gw oid l u10 u12 u14 wr) (fun _ _ u14 _ => l.length - (intOf u14).toNat)
  case atStart => exact ⟨0, newL n, true, List.replicate n false, A, c, rfl, rfl, rfl, Nat.zero_le _, ⟨h2⟩, HC3, ⟨deeds_start hn1 hn2 oid⟩, HW3, HB3⟩
  case round =>
    obtain ⟨i, m, plain, was, B, cb, rfl, rfl, rfl, hi, HCB, HCM, HD, HW, HBR⟩ := hrel
    have hcb : m.length ≤ cb := HCB.out
    have HMN := Aside0.mk HD.out.len
    have hm20 : m.length ≤ 20 := by rw [HMN.out]; omega
    have HSM := Aside0.mk (short_ok HD.out.chk)
    by_cases hlt : i < l.length
    · have di : decide (i < l.length) = true := decide_eq_true hlt
      obtain ⟨ad, x, rfl, hx, p0, p1, p2⟩ := hint_at (Kd.C_below HR.out HBR.out) i hlt
      have HA : Aside0 (∀ wq, Below wr.heap.size wr wq → Calls Try.prog 39 #[.slice B m.length cb, .int .i64 x.f0, .int .i64 x.f1, .int .i64 x.f2] wq fun e w' => ∃ A2 c2, e = .returned (.tuple #[.slice A2 (actF m x.f0 x.f1 x.f2).1.length c2, .bool (actF m x.f0 x.f1 x.f2).2]) ∧ (actF m x.f0 x.f1 x.f2).1.length ≤ c2 ∧ Kd.C k36 w' A2 (actF m x.f0 x.f1 x.f2).1.length (actF m x.f0 x.f1 x.f2).1 ∧ Below wr.heap.size wr w') := ⟨fun wq hq => by
        refine (act_any B m.length cb m x.f0 x.f1 x.f2 wq rfl (Kd.C_below HCM.out hq) hcb hm20 HSM.out).mono ?_
        rintro e w' ⟨A2, c2, e1, e2, e3, e4⟩
        exact ⟨A2, c2, e1, e2, e3, below_step hq e4⟩⟩
      have HD2 := Aside0.mk (deeds_step HD.out x.f0 x.f1 x.f2)
      clear hx
      go_upto_region 10 with fail
      have HSB : Aside0 (∀ w', Below wr.heap.size wr w' → (w'.cell? (ad.add (i * 3)) = some (.int .i64 x.f0) ∧ w'.cell? ⟨(ad.add (i * 3)).block, (ad.add (i * 3)).off + 1, none⟩ = some (.int .i64 x.f1) ∧ w'.cell? ⟨(ad.add (i * 3)).block, (ad.add (i * 3)).off + 2, none⟩ = some (.int .i64 x.f2))) := ⟨fun w' hb => ⟨cell_below hb p0, cell_below hb p1, cell_below hb p2⟩⟩
      have i0 : (0 : Int) ≤ (i : Int) := by omega
      have i1 : (i : Int) < (l.length : Int) := by omega
      clear p0 p1 p2
      go_region_held3 (fun w' => w'.cell? (ad.add (i * 3)) = some (.int .i64 x.f0) ∧ w'.cell? ⟨(ad.add (i * 3)).block, (ad.add (i * 3)).off + 1, none⟩ = some (.int .i64 x.f1) ∧ w'.cell? ⟨(ad.add (i * 3)).block, (ad.add (i * 3)).off + 2, none⟩ = some (.int .i64 x.f2)) (exact HSB.out _ (by repeat (first | exact Below.refl _ _ | exact HB4.out | refine below_drew ?_))) ((go_at_call 39; refine (HA.out _ (by repeat (first | exact Below.refl _ _ | refine below_drew ?_))).mono ?_; rintro e w4 ⟨B4, c4, rfl, h4, hC4, hB⟩; have HB4 := Aside0.mk hB; have HC4 := Aside0.mk hC4; clear hB hC4))
      obtain ⟨r, hr⟩ : ∃ r, r = actF m x.f0 x.f1 x.f2 := ⟨_, rfl⟩
      rw [← hr] at HC4 HD2 h4 ⊢
      clear hr HA HSB
      obtain ⟨m2, kept⟩ := r
      dsimp only at HC4 HD2 h4 ⊢
      have HB5 := Aside0.mk (below_step HBR.out HB4.out)
      have HW5 := Aside0.mk (blk_below HW.out HB4.out)
      have HS5 := Aside0.mk (short_ok HD2.out.chk)
      clear HB4 HBR HW HD HCM HSM HMN hm20
      go_upto_region 11 with fail
      go_cut [12] (fun u12 wx => u12 = .bool (plain && kept) ∧ Aside0 (Below w4.heap.size w4 wx))
      case first =>
        cases plain
        all_goals
          go_wp2_with fail
          go_meet
          case rel => exact ⟨rfl, ⟨Below.refl _ _⟩⟩
      case rest =>
        obtain ⟨rfl, hcut⟩ := hcut
        obtain ⟨w6, hw6⟩ : ∃ W, W = wc := ⟨_, rfl⟩
        rw [← hw6] at hcut ⊢
        have HB6 := Aside0.mk (below_step HB5.out hcut.out)
        have HC6 := Aside0.mk (Kd.C_below HC4.out hcut.out)
        have HW6 := Aside0.mk (blk_below HW5.out hcut.out)
        clear hw6 hcut HB5 HC4 HW5
        go_wp2_with fail
        refine (check_any B4 m2.length c4 m2 w6 rfl HC6.out h4 HS5.out).mono ?_
        rintro e w7 ⟨rfl, hB⟩
        have hcc : checkC m2 = 0 := by unfold checkC; rw [if_pos HD2.out.chk]
        rw [hcc]
        have HB7 := Aside0.mk (below_step HB6.out hB)
        have HC7 := Aside0.mk (Kd.C_below HC6.out hB)
        have HW7 := Aside0.mk (blk_below HW6.out hB)
        clear hcc hB HB6 HC6 HW6
        go_wp2_with fail
        refine (Where_any B4 m2.length c4 m2 oid w7 rfl HC7.out h4 HS5.out).mono ?_
        rintro e w8 ⟨rfl, hB⟩
        have HM : Aside0 (markF was m2 oid = if (whereF m2 oid).2 = 0 then was.set (whereF m2 oid).1.f1.toNat true else was) := ⟨rfl⟩
        have HA2 : Aside0 ((whereF m2 oid).2 = 0 → ∃ a : Nat, (whereF m2 oid).1.f1 = (a : Int) ∧ a < n) := ⟨fun e => by
          obtain ⟨a, e1, e2, _⟩ := where_at e
          exact ⟨a, e1, by rw [← HD2.out.len]; exact e2⟩⟩
        obtain ⟨r, hr⟩ : ∃ r, r = whereF m2 oid := ⟨_, rfl⟩
        rw [← hr] at HM HA2 ⊢
        clear hr
        obtain ⟨⟨h0, h1, h2⟩, e8⟩ := r
        dsimp only at HM HA2 ⊢
        simp only [hintV]
        obtain ⟨w9, hw9⟩ : ∃ W, W = w8.alloc (Obj.cells #[Value.int IntKind.i64 h0, Value.int IntKind.i64 h1, Value.int IntKind.i64 h2] 31) := ⟨_, rfl⟩
        have hb79 : Below w7.heap.size w7 w9 := by rw [hw9]; exact below_alloc hB _
        have HB9 := Aside0.mk (below_step HB7.out hb79)
        have HC9 := Aside0.mk (Kd.C_below HC7.out hb79)
        have HW9 := Aside0.mk (blk_below HW7.out hb79)
        clear HB7 HC7 HW7 hb79 hB
        go_upto_region 16 with fail
        rw [← hw9]
        obtain ⟨gy, hgy⟩ : ∃ g, g = w8.heap.size := ⟨_, rfl⟩
        have HY : Aside0 (w9.heap[gy]? = some (.cells #[.int .i64 h0, .int .i64 h1, .int .i64 h2] 31 (0, 0))) := ⟨by rw [hw9, hgy]; exact heap_alloc_new _ _⟩
        rw [← hgy]
        clear hw9 hgy
        obtain ⟨k0, k1, k2, _, _, _⟩ := blk3 HY.out
        obtain ⟨pk, hpk⟩ : ∃ v, v = (plain && kept) := ⟨_, rfl⟩
        rw [← hpk] at HD2 ⊢
        clear hpk
        by_cases e0 : e8 = 0
        · subst e0
          obtain ⟨a, rfl, ha⟩ := HA2.out rfl
          have HM2 : Aside0 (markF was m2 oid = was.set a true) := ⟨by rw [HM.out, if_pos rfl, Int.toNat_natCast]⟩
          have d1 : (0 : Int) ≤ (a : Int) := by omega
          have d2 : (a : Int) < (n : Int) := by omega
          have d3 : decide ((0 : Int) ≤ (a : Int)) = true := decide_eq_true d1
          have d4 : decide (a < n) = true := decide_eq_true ha
          have q1 : w9.frozen? ⟨gw, a, none⟩ = false := blk_frozen HW9.out a
          obtain ⟨bv, q0⟩ : ∃ bv, w9.cell? ⟨gw, a, none⟩ = some (.bool bv) := by
            have hwl : a < was.length := by have := HD2.out.wlen; unfold markF at this; split at this <;> (try rw [List.length_set] at this) <;> omega
            refine ⟨was[a], ?_⟩
            rw [blk_cell HW9.out a, List.getElem?_toArray, List.getElem?_map, List.getElem?_eq_getElem hwl]; rfl
          clear HM HA2
          go_wp2_with fail
          go_roundw
          case measure => simp [intOf]; omega
          case rel => exact ⟨i + 1, m2, pk, was.set a true, B4, c4, by go_num, rfl, rfl, by omega, ⟨h4⟩, ⟨posts_apart HW9.out HC9.out⟩, ⟨by rw [← HM2.out]; exact HD2.out⟩, ⟨mark_blk HW9.out⟩, ⟨below_set HB9.out HGW.out⟩⟩
        · have HM2 : Aside0 (markF was m2 oid = was) := ⟨by rw [HM.out, if_neg e0]⟩
          have dq : (e8 == 0) = false := beq_eq_false_iff_ne.2 e0
          clear HM HA2 e0
          go_wp2_with fail
          go_roundw
          case measure => simp [intOf]; omega
          case rel => exact ⟨i + 1, m2, pk, was, B4, c4, by go_num, rfl, rfl, by omega, ⟨h4⟩, HC9, ⟨by rw [← HM2.out]; exact HD2.out⟩, HW9, HB9⟩
    · have di : decide (i < l.length) = false := decide_eq_false hlt
      clear hlt
      go_wp2_with fail
      refine (Follow_any B m.length cb m place oid wr rfl HCM.out hcb HSM.out).mono ?_
      rintro e w6 ⟨v, rfl, hR, hB⟩
      by_cases e0 : (followF m place oid).2.2 = 0
      rotate_left
      · obtain ⟨q, hq⟩ : ∃ q, q = (followF m place oid).2.2 := ⟨_, rfl⟩
        rw [← hq] at e0 ⊢
        have dq : (q != 0) = true := bne_iff_ne.2 e0
        have HB6 := Aside0.mk (below_step HBR.out hB)
        clear hq e0 hR hB di
        go_wp2_with fail
        go_returns
        exact ⟨rfl, HB6.out⟩
      obtain ⟨L, is, P⟩ := follow_ok HD.out e0
      rw [P.res] at hR ⊢
      obtain ⟨U, cu, rfl⟩ := Kd.R_slice hR
      have hcu := (Kd.R_reads' hR).2.1
      have HL6 := Aside0.mk (Kd.R_reads' hR).2.2
      have HB6 := Aside0.mk (below_step HBR.out hB)
      have HC6 := Aside0.mk (Kd.C_below HCM.out hB)
      have HW6 := Aside0.mk (blk_below HW.out hB)
      have hLl := P.len
      obtain ⟨p, rfl⟩ : ∃ p : Nat, place = (p : Int) := ⟨place.toNat, by have := P.pl; omega⟩
      have hpn : p < n := by have := P.pl; omega
      have HP := Aside0.mk P
      clear P e0 hR hB di HBR HCM
      dsimp only at hcu HL6 ⊢
      have hwn : IntKind.i64.wrap ((n : Int) + 1) = (n : Int) + 1 := by rw [IntKind.wrap_i64]; omega
      have dL : decide ((n : Int) + 1 < (L.length : Int)) = false := decide_eq_false (by omega)
      go_wp2_with fail
      refine (distinct_any U L.length cu L true w6 rfl HL6.out hcu (by omega) (dist_but HP.out.but)).mono ?_
      rintro e w7 ⟨rfl, hB⟩
      have HB7 := Aside0.mk (below_step HB6.out hB)
      have HC7 := Aside0.mk (Kd.C_below HC6.out hB)
      have HW7 := Aside0.mk (blk_below HW6.out hB)
      have HL7 := Aside0.mk (Kd.C_below HL6.out hB)
      clear HB6 HC6 HW6 HL6 hB
      cases plain with
      | false =>
        go_wp2_with fail
        refine (Where_any B m.length cb m oid w7 rfl HC7.out hcb HSM.out).mono ?_
        rintro e w8 ⟨rfl, hB⟩
        simp only [hintV]
        have HB8 : Aside0 (Below w.heap.size w (w8.alloc (Obj.cells #[Value.int IntKind.i64 (whereF m oid).1.f0, Value.int IntKind.i64 (whereF m oid).1.f1, Value.int IntKind.i64 (whereF m oid).1.f2] 31))) := ⟨below_alloc (below_step HB7.out hB) _⟩
        clear hB
        go_wp2_with fail
        go_returns
        exact ⟨rfl, HB8.out⟩
      | true =>
        go_wp2_with fail
        refine (distinct_any U L.length cu L false w7 rfl HL7.out hcu (by omega) (dist_nodup (HP.out.all rfl))).mono ?_
        rintro e w8 ⟨rfl, hB⟩
        have HB8 := Aside0.mk (below_step HB7.out hB)
        have HC8 := Aside0.mk (Kd.C_below HC7.out hB)
        have HW8 := Aside0.mk (blk_below HW7.out hB)
        clear HB7 HC7 HW7 HL7 hB
        go_wp2_with fail
        refine (Where_any B m.length cb m oid w8 rfl HC8.out hcb HSM.out).mono ?_
        rintro e w9 ⟨rfl, hB⟩
        simp only [hintV]
        obtain ⟨w9', hw9⟩ : ∃ W, W = w9.alloc (Obj.cells #[Value.int IntKind.i64 (whereF m oid).1.f0, Value.int IntKind.i64 (whereF m oid).1.f1, Value.int IntKind.i64 (whereF m oid).1.f2] 31) := ⟨_, rfl⟩
        have hb89 : Below w8.heap.size w8 w9' := by rw [hw9]; exact below_alloc hB _
        have HB9 := Aside0.mk (below_step HB8.out hb89)
        have HW9 := Aside0.mk (blk_below HW8.out hb89)
        clear HB8 HC8 HW8 hb89 hB
        go_upto_region 24 with fail
        rw [← hw9]
        clear hw9
        have hwl : p < was.length := by rw [HD.out.wlen]; exact hpn
        have q0 : w9'.cell? ⟨gw, p, none⟩ = some (.bool (was.getD p false)) := by
          rw [blk_cell HW9.out p, List.getElem?_toArray, List.getElem?_map, List.getElem?_eq_getElem hwl, List.getD_eq_getElem?_getD, List.getElem?_eq_getElem hwl]; rfl
        have HF : Aside0 (was.getD p false = true → is = true) := ⟨fun e => HP.out.found rfl (by rw [Int.toNat_natCast]; exact e)⟩
        obtain ⟨bv, hbv⟩ : ∃ v, v = was.getD p false := ⟨_, rfl⟩
        rw [← hbv] at q0 HF
        clear hbv hwl
        have d1 : (0 : Int) ≤ (p : Int) := by omega
        have d2 : (p : Int) < (n : Int) := by omega
        cases bv with
        | false =>
          go_wp2_with fail
          go_returns
          exact ⟨rfl, HB9.out⟩
        | true =>
          obtain rfl := HF.out rfl
          by_cases e0 : (whereF m oid).2 = 0
          · rw [e0]
            go_wp2_with fail
            go_returns
            exact ⟨rfl, HB9.out⟩
          · have dq : ((whereF m oid).2 != 0) = true := bne_iff_ne.2 e0
            clear e0
            go_wp2_with fail
            go_returns
            exact ⟨rfl, HB9.out⟩
end Go.Proofs.Ytjnceoohlcchnaa.Print

/-! A hint, a row of hints, or of triples, handed in. -/
namespace Go.Proofs.Ytjnceoohlcchnaa.Print
open Go Go.ChangeShapes Go.WideShapes Go.ChangeAt Go.RowKit Go.Deep Go.Proofs.YtjnceoohlcchnaaW.PrintWords Go.Proofs.YtjnceoohlcchnaaW.PrintLast Go.Proofs.YtjnceoohlcchnaaW.PrintMore
section
variable {H : Type} {enc : TypeId × Value → H} {W : World} {held : Bool}
set_option maxRecDepth 100000 in
theorem lift_hint {v : Value} {base : Nat} {d : DataW H} {ps : List MemPlace} (ho : Value.okWide Try.prog W .any base 31 v) (h : DataW.Trod enc Try.prog W 0 (fun _ => true) held 31 v d ps) : ∃ x : S31, v = .agg #[.int .i64 x.f0, .int .i64 x.f1, .int .i64 x.f2] := by
  obtain ⟨cs, rfl, hs⟩ := okWide_struct Try.underlying31 ho
  obtain ⟨fuel, hf⟩ := h
  rw [show Try.prog.cellsOf 31 = 3 from by kernel_rfl] at hs
  obtain ⟨cs⟩ := cs
  match cs, hs with
  | [v0, v1, v2], _ =>
    obtain ⟨y0, y1, y2, n, _, _, g0, g1, g2⟩ := trod_struct3 Try.underlying31 (show DataW.trod enc Try.prog W 0 (fun _ => true) held fuel 31 [v0, v1, v2] = some (d, ps) from by simpa [Value.cells] using hf)
    rw [show Try.prog.cellsOf 3 = 1 from by kernel_rfl] at g0 g1 g2
    simp at g0 g1 g2
    obtain ⟨z0, e0, _, _⟩ := DataW.trod_int Try.underlying3 g0
    obtain ⟨z1, e1, _, _⟩ := DataW.trod_int Try.underlying3 g1
    obtain ⟨z2, e2, _, _⟩ := DataW.trod_int Try.underlying3 g2
    simp at e0 e1 e2
    subst e0 e1 e2
    exact ⟨⟨z0, z1, z2⟩, rfl⟩
theorem lift_hintsT {a : Option Addr} {len cap : Nat} {d : DataW H} {ps : List MemPlace} (h : DataW.Trod enc Try.prog W 0 (fun _ => true) held 34 (.slice a len cap) d ps) (hz : ∀ n ∈ d.weights Try.prog 34, n ≤ reachBytes) :
    ∃ l : List S31, l.length = len ∧ len ≤ cap ∧ Kd.C k31 W a len l ∧ len ≤ 140737488355328 := by
  obtain ⟨fuel, hf⟩ := h
  exact lift_hints (fuel := fuel) (d := d) (ps := ps) (by simpa [Value.cells] using hf) hz
set_option maxRecDepth 100000 in
theorem lift_trips {a : Option Addr} {len cap : Nat} {d : DataW H} {ps : List MemPlace} (h : DataW.Trod enc Try.prog W 0 (fun _ => true) held 55 (.slice a len cap) d ps) :
    ∃ l : List S31, l.length = len ∧ len ≤ cap ∧ Kd.C k31 W a len l := by
  obtain ⟨fuel, hf⟩ := h
  rcases open_slice Try.underlying55 hf with ⟨hcs, _⟩ | ⟨x, l', c', m, n, D, Pl, hcs, _, hl, hm, hmm, hx, hcell⟩
  · simp [Value.cells] at hcs
    obtain ⟨rfl, rfl, rfl⟩ := hcs
    exact ⟨[], rfl, Nat.le_refl _, Kd.C_nil _ _⟩
  · simp [Value.cells] at hcs
    obtain ⟨rfl, rfl, rfl⟩ := hcs
    simp only [if_true] at hmm
    subst hmm
    rw [show Try.prog.cellsOf 59 = 3 from by kernel_rfl] at hcell
    have each : ∀ i, i < len → ∃ y : S31, W.cell? (x.add (i * 3)) = some (.int .i64 y.f0) ∧ W.cell? (x.add (i * 3 + 1)) = some (.int .i64 y.f1) ∧ W.cell? (x.add (i * 3 + 2)) = some (.int .i64 y.f2) := by
      intro i hi
      obtain ⟨cs', h1, h2⟩ := hcell i (by omega)
      obtain ⟨_, hlen, hc⟩ := World.cells?_some h1
      cases n with
      | zero => simp [DataW.trod] at h2
      | succ n =>
        simp only [DataW.trod, Try.underlying59] at h2
        split at h2
        · obtain ⟨xs, hmm, hx⟩ := Option.map_eq_some_iff.1 h2
          obtain ⟨b0, _, f0⟩ := Lib.mapM_at hmm 0 0 rfl
          obtain ⟨b1, _, f1⟩ := Lib.mapM_at hmm 1 1 rfl
          obtain ⟨b2, _, f2⟩ := Lib.mapM_at hmm 2 2 rfl
          rw [show Try.prog.cellsOf 3 = 1 from by kernel_rfl] at f0 f1 f2
          match cs', hlen with
          | [v0, v1, v2], _ =>
            obtain ⟨z0, e0, _⟩ := DataW.trod_int Try.underlying3 f0
            obtain ⟨z1, e1, _⟩ := DataW.trod_int Try.underlying3 f1
            obtain ⟨z2, e2, _⟩ := DataW.trod_int Try.underlying3 f2
            have g0 := hc 0 (by simp)
            have g1 := hc 1 (by simp)
            have g2 := hc 2 (by simp)
            rw [Go.Deep.add_add] at g0 g1 g2
            simp at e0 e1 e2 g0 g1 g2
            exact ⟨⟨z0, z1, z2⟩, by rw [← e0]; exact g0, by rw [← e1]; exact g1, by rw [← e2]; exact g2⟩
        · cases h2
    haveI : Inhabited S31 := ⟨⟨0, 0, 0⟩⟩
    obtain ⟨y, hy⟩ := choose_lt each
    refine ⟨(List.range len).map y, by simp, hl, ⟨by simp, by unfold maxLen at hm; omega, fun _ => ⟨x, rfl, fun j p hj => ?_⟩⟩⟩
    rw [List.getElem?_map] at hj
    obtain ⟨i, hi, rfl⟩ := Option.map_eq_some_iff.1 hj
    obtain ⟨hjl, hji⟩ := List.getElem?_eq_some_iff.1 hi
    simp at hjl hji
    subst hji
    obtain ⟨e0, e1, e2⟩ := hy j hjl
    refine ⟨_, rfl, k31_mk W (y j), fun i u hu => ?_⟩
    match i, hu with
    | 0, hu => cases hu; exact e0
    | 1, hu => cases hu; exact e1
    | 2, hu => cases hu; exact e2
end
end Go.Proofs.Ytjnceoohlcchnaa.Print

namespace Go.Proofs.Ytjnceoohlcchnaa.findValid
open Go Go.ChangeShapes Go.WideShapes Go.ChangeAt Go.RowKit Go.Proofs.Ytjnceoohlcchnaa.Print
open Go.Proofs.YtjnceoohlcchnaaW.PrintWords
theorem own : ownKnob Try.prog.godebug = none := by kernel_rfl
theorem laidOut : laidOutB Try.prog = true := by kernel_rfl

theorem small {H : Type} {ts : List TypeId} {ds : List (DataW H)} (hsz : (DataW.weightsEach Try.prog ts ds).all (· ≤ reachBytes) = true) {j : Nat} {t : TypeId} {d : DataW H} (ht : ts[j]? = some t) (hd : ds[j]? = some d) : ∀ n ∈ d.weights Try.prog t, n ≤ reachBytes := by
  intro n hn
  have := List.all_eq_true.1 hsz _ (DataW.weights_mem_each ht hd n hn)
  simpa using this


set_option maxRecDepth 100000 in
theorem lifted (os : Os) (started : os.Started) (H : Type) (enc : TypeId × Value → H) :
    ReturnsInHanded {} Try.checked os 8 .any (Rows.findValidSpec.pre6 enc Try.prog Try.f8 Rows.findValidRow.domain false) (Rows.findValidSpec.post enc Try.prog Try.f8 false true false false) := by
  refine returnsInHanded_of_change_sized (C := Try.checked) own started (by kernel_rfl) Try.func8
    (ChangeSpec.witness6 (enc := enc) (C := Try.checked) false ⟨#[], #[.int .i64 0, .slice none 0 0, .int .i64 0, .int .i64 0], []⟩ 8 (by kernel_rfl) (by kernel_rfl) (by kernel_rfl) (by kernel_rfl)) ?_
  intro W base args ds gs before hval0 hW hcnd hsz0 _
  have hsz : (DataW.weightsEach Try.prog (Try.f8.params.toList ++ Rows.findValidSpec.plain.varTypes Try.prog) (ds ++ gs)).all (· ≤ reachBytes) = true := hsz0
  have hval : ∀ (j : Nat) t v, Try.f8.params[j]? = some t → args[j]? = some v → Value.okWide Try.prog W .any base t v := hval0
  have hW' := hW
  obtain ⟨p, q, hA0, hV, rfl, hfz, hnd⟩ := hW
  have hA : DataW.TrodAll enc Try.prog W 0 (fun _ => true) true Try.f8.params.toList args.toList ds p := hA0
  rw [Try.params8] at hA hval hsz
  obtain ⟨v0, vs0, d0, ds0, p0, q0, hargs, rfl, rfl, h0, r0⟩ := trodAll_cons hA
  obtain ⟨v1, vs1, d1, ds1, p1, q1, rfl, rfl, rfl, h1, r1⟩ := trodAll_cons r0
  obtain ⟨v2, vs2, d2, ds2, p2, q2, rfl, rfl, rfl, h2, r2⟩ := trodAll_cons r1
  obtain ⟨v3, vs3, d3, ds3, p3, q3, rfl, rfl, rfl, h3, r3⟩ := trodAll_cons r2
  obtain ⟨rfl, rfl, rfl⟩ := trodAll_nil r3
  obtain rfl : args = #[v0, v1, v2, v3] := by cases args; simp_all
  obtain ⟨rfl, rfl⟩ := trodVars_none hV
  obtain ⟨a0, rfl, rfl, rfl, w0⟩ := open_int Try.underlying3 (hval 0 3 v0 rfl rfl) h0
  obtain ⟨a1, len1, cap1, rfl⟩ := okWide_slice Try.underlying55 (hval 1 55 v1 rfl rfl)
  obtain ⟨a2, rfl, rfl, rfl, w2⟩ := open_int Try.underlying3 (hval 2 3 v2 rfl rfl) h2
  obtain ⟨a3, rfl, rfl, rfl, w3⟩ := open_int Try.underlying3 (hval 3 3 v3 rfl rfl) h3
  have k1 := h1
  have lt1 : ∀ x ∈ p1, x.block < W.heap.size := by obtain ⟨m, hm⟩ := k1; exact DataW.trod_lt m _ _ _ hm
  obtain ⟨l1, e1, hc1, hr1⟩ := lift_trips h1
  subst e1
  clear hA0 hval0 hsz0 hsz
  refine (valid_walk a0 a1 cap1 l1 a2 a3 W hr1 hc1 ).mono fun e W' ⟨he, bel⟩ => ?_
  subst he
  exact ⟨_, rfl, _, _, _, [], _, [], hW', trodAll_mk1 (shut_bool Try.underlying4 _), (trodAll_cons_mk (shut_int Try.underlying3 w0) (trodAll_cons_mk (Below.trod laidOut (by kernel_rfl) (of_decide_eq_true (by kernel_rfl)) k1 bel lt1) (trodAll_cons_mk (shut_int Try.underlying3 w2) (trodAll_cons_mk (shut_int Try.underlying3 w3) trodAll_mk0)))), rfl, bel.frame _, fun h => by cases h⟩
theorem over : Rows.findValidRow.holds Try.pinned (OpenSpec.ofChange Rows.findValidSpec) :=
  OpenClaim.holds_of_wide 8 Try.f8 rfl rfl rfl rfl rfl rfl rfl ⟨rfl, rfl, rfl, rfl, rfl⟩ rfl rfl rfl rfl rfl (by kernel_rfl) Try.func8 (by kernel_rfl)
    (of_decide_eq_true (by kernel_rfl)) (by unfold Func.isWrapper; first | (rw [if_pos (by decide +kernel)]; kernel_rfl) | (rw [if_neg (by decide +kernel)]; exact ⟨rfl, rfl⟩))
    (fun os started H enc _ => lifted os started H enc)
theorem proved : Rows.FindValidSaid := over
#print axioms proved
end Go.Proofs.Ytjnceoohlcchnaa.findValid
namespace Go.Proofs.Ytjnceoohlcchnaa
/-- The row, under a short name, for the claim. -/
theorem findValid_holds : Rows.FindValidSaid := findValid.proved
end Go.Proofs.Ytjnceoohlcchnaa
