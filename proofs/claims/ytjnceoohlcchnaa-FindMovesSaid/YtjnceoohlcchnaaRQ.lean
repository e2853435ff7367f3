/- FindMoves: for every map, object, place and hint the statement answers true, and all read afterwards as before; without condition. -/
import Derived.Test.YtjnceoohlcchnaaRI
import Derived.Test.YtjnceoohlcchnaaRG
import Derived.Test.YtjnceoohlcchnaaRJ
import Derived.Test.YtjnceoohlcchnaaRH
import Derived.Test.YtjnceoohlcchnaaRP
import Derived.Test.YtjnceoohlcchnaaRD
import Derived.Test.YtjnceoohlcchnaaRE
import Derived.Deep.Strs
import Derived.Lib.LaidTab
import Derived.Test.YtjnceoohlcchnaaRows
import Derived.WalkKit
import Derived.ProofKit
import Derived.OpenShut
import Derived.ShutString
import Derived.ChangeOld
import Derived.Below
import Derived.SizedLaws
set_option linter.unusedVariables false
set_option linter.unusedSimpArgs false
/-! what a search and a route find, as the law says it -/
namespace Go.Proofs.Ytjnceoohlcchnaa.Print
open Go Go.RowKit Go.Deep Go.Proofs.YtjnceoohlcchnaaW.PrintWords Go.Proofs.YtjnceoohlcchnaaW.PrintLast Go.Proofs.YtjnceoohlcchnaaW.PrintMore
theorem post_mem (l : List S36) (p oid : Int) (h : atB (postA l p).f2 oid = true) : postA l p ∈ l := by
  unfold postA at h ⊢
  rw [List.getD_eq_getElem?_getD] at h ⊢
  cases hx : l[p.toNat]? with
  | none => rw [hx] at h; unfold atB at h; simp at h
  | some x => exact List.mem_of_getElem? hx
theorem post_mem1 (l : List S36) (p oid : Int) (h : atB (postA l p).f1 oid = true) : postA l p ∈ l := by
  unfold postA at h ⊢
  rw [List.getD_eq_getElem?_getD] at h ⊢
  cases hx : l[p.toNat]? with
  | none => rw [hx] at h; unfold atB at h; simp at h
  | some x => exact List.mem_of_getElem? hx
theorem steps_rho (l : List S36) (oid : Int) : ∀ (f : Nat) (p t : Int), (stepsR (nxH l oid) f p t).length ≤ rho l oid t + 1
  | 0, p, t => Nat.zero_le _
  | f + 1, p, t => by
    unfold stepsR
    by_cases h : (nxH l oid p t).1.2 = true
    · rw [if_pos h]
      have ih := steps_rho l oid f (nxH l oid p t).1.1 (nxH l oid p t).2
      unfold nxH at h
      by_cases h1 : atB (postA l p).f1 oid = true
      · rw [if_pos h1] at h; cases h
      rw [if_neg h1] at h
      by_cases h2 : (atB (postA l p).f2 oid && decide (t < (lookL (postA l p).f2 oid).f2)) = true
      · have e : (nxH l oid p t).2 = (lookL (postA l p).f2 oid).f2 := by
          unfold nxH
          rw [if_neg h1, if_pos h2]
        have hr := rho_lt (t := t) (post_mem l p oid (by rw [Bool.and_eq_true] at h2; exact h2.1)) (show newer oid t _ = true from h2)
        rw [← e] at hr
        rw [List.length_cons]
        omega
      · rw [if_neg h2] at h; cases h
    · rw [if_neg h]
      simp
theorem follow_len (l : List S36) (oid p : Int) : (followL l oid p).length ≤ l.length + 1 :=
  Nat.le_trans (steps_rho l oid _ p (-1)) (Nat.succ_le_succ (rho_le l oid (-1)))
theorem ask_le (place hp : Int) : ∀ (m p : Nat) (f : Bool) (s : Nat), askN place hp m p f s ≤ s + m
  | 0, _, _, s => Nat.le_refl _
  | m + 1, p, f, s => by
    unfold askN
    split
    · omega
    · split
      · have := ask_le place hp m (p + 1) f s; omega
      · have := ask_le place hp m (p + 1) ((p : Int) == hp) (s + 1); omega
theorem ask_lt (hp : Int) (q : Nat) : ∀ (m p : Nat) (f : Bool) (s : Nat), p ≤ q → q < p + m → askN (q : Int) hp m p f s < s + m
  | 0, p, _, s, h1, h2 => by omega
  | m + 1, p, f, s, h1, h2 => by
    unfold askN
    split
    · omega
    · split
      · have := ask_le (q : Int) hp m (p + 1) f s; omega
      · next h =>
        have hne : p ≠ q := fun e => h (by rw [e]; simp)
        have := ask_lt hp q m (p + 1) ((p : Int) == hp) (s + 1) (by omega) (by omega); omega
theorem ask_found (place hp : Int) (m p s : Nat) : askN place hp m p true s = s := by
  cases m with
  | zero => rfl
  | succ m => unfold askN; rw [if_pos rfl]
theorem where_mem {l : List S36} {oid : Int} {x : S36} (hx : x ∈ l) (h : atB x.f1 oid = true) : (whereL l oid).2 = true := by
  cases hb : (whereL l oid).2 with
  | true => rfl
  | false =>
    have := where_none hb x hx
    rw [h] at this; cases this
/-- what a search tells, where all is right -/
theorem search_found {l : List S36} {oid place : Int} (hc : checkF l = true) (ho : 1 ≤ oid) (hp : 0 ≤ place ∧ place < l.length) :
    (((postA l place).f0 && !((((searchF l place oid).2.2.2 == 0) == (whereL l oid).2))) && !((searchF l place oid).2.2.2 == 2)) = false ∧
    ((searchF l place oid).2.2.2 = 0 → (whereL l oid).2 = true ∧ (searchF l place oid).2.1 = (whereL l oid).1 ∧ 0 ≤ (searchF l place oid).2.2.1 ∧ (searchF l place oid).2.2.1 ≤ 2 * (l.length : Int)) := by
  have hg := given_of (l := l) (ok := decide (1 ≤ oid)) (ps := [place]) hc (decide_eq_true ho) (fun p hm => by rw [List.mem_singleton] at hm; rw [hm]; exact hp)
  unfold searchF
  rw [if_pos hg]
  by_cases h1 : (postA l place).f0 = true
  rotate_left
  · rw [if_neg h1]
    have : (postA l place).f0 = false := by simpa using h1
    rw [this]
    exact ⟨rfl, fun h => by cases h⟩
  rw [if_pos h1, h1]
  by_cases h2 : (whereL l oid).2 = true
  rotate_left
  · rw [if_neg h2]
    have : (whereL l oid).2 = false := by simpa using h2
    rw [this]
    exact ⟨rfl, fun h => by cases h⟩
  rw [if_pos h2, h2]
  by_cases h3 : ((whereL l oid).1.f1 == place) = true
  · rw [if_pos h3]
    exact ⟨rfl, fun _ => ⟨rfl, rfl, Int.le_refl _, by show (0 : Int) ≤ 2 * (l.length : Int); omega⟩⟩
  rw [if_neg h3]
  cases ht : tellsF (whereL l oid).1 (place :: followL l oid place) l with
  | none => exact ⟨rfl, fun h => by cases h⟩
  | some r =>
    refine ⟨rfl, fun _ => ⟨rfl, rfl, Int.natCast_nonneg _, ?_⟩⟩
    show ((askN place (whereL l oid).1.f1 l.length 0 (foundB l oid (followL l oid place)) (followL l oid place).length : Nat) : Int) ≤ _
    have hf := follow_len l oid place
    have hv := check_vat hc
    obtain ⟨a, x, ha, hx, _⟩ := has_here hv h2
    have hal := (List.getElem?_eq_some_iff.1 hx).1
    have hq : ((place.toNat : Nat) : Int) = place := Int.toNat_of_nonneg hp.1
    have hap : a ≠ place.toNat := fun e => h3 (by rw [ha, e, hq, beq_iff_eq])
    cases hb : foundB l oid (followL l oid place) with
    | true => rw [ask_found]; omega
    | false =>
      have := ask_lt (whereL l oid).1.f1 place.toNat l.length 0 false (followL l oid place).length (Nat.zero_le _) (by omega)
      rw [hq] at this
      omega
def phiR (l : List S36) (oid : Int) (s : Nat × Int × Bool) : Nat := rho l oid s.2.1 * l.length + (l.length - s.1)
/-- one step of a route -/
theorem step_nxR {l : List S36} {oid : Int} {i row : Nat} {t : Int} {f : Bool} (h1 : row < l.length) (h2 : atB (postA l i).f1 oid = false) :
    (messageB (postA l i) oid t = true ∧ nxR l oid i (row, t, f) = (((lookL (postA l i).f2 oid).f1, true), (0, (lookL (postA l i).f2 oid).f2, false)) ∧ rho l oid (lookL (postA l i).f2 oid).f2 < rho l oid t) ∨
    (nxR l oid i (row, t, f) = (((((i + 1) % l.length : Nat) : Int), true), (row + 1, t, false))) := by
  have hne : (atB (postA l (i : Int)).f1 oid || row == l.length) = false := by rw [h2, Bool.false_or, beq_eq_false_iff_ne]; omega
  unfold nxR
  dsimp only
  rw [hne, h2, if_neg (by simp)]
  unfold messageF
  rw [Int.toNat_natCast]
  by_cases hm : messageB (postA l (i : Int)) oid t = true
  · have hm0 := hm
    unfold messageB at hm0
    rw [Bool.and_eq_true, Bool.and_eq_true, decide_eq_true_iff] at hm0
    obtain ⟨⟨a, _⟩, c⟩ := hm0
    refine .inl ⟨hm, ?_, rho_lt (post_mem l i oid a) (show newer oid t _ = true by unfold newer; rw [a, decide_eq_true c]; rfl)⟩
    rw [if_pos hm, if_pos c]
  · right
    rw [if_neg hm, if_neg (Int.lt_irrefl _)]
theorem phi_step {r r' n row : Nat} (hr : r' < r) (h : row < n) : r' * n + (n - 0) + 1 ≤ r * n + (n - row) := by
  obtain ⟨d, rfl⟩ := Nat.exists_eq_add_of_lt hr
  have : (r' + d + 1) * n = r' * n + d * n + n := by rw [Nat.add_mul, Nat.add_mul, Nat.one_mul]
  omega
theorem go_nxR {l : List S36} {oid : Int} {p : Int} {s : Nat × Int × Bool} (hg : GoodR l p s) (h : (nxR l oid p s).1.2 = true) : ∃ i : Nat, p = (i : Int) ∧ i < l.length ∧ s.1 < l.length ∧ atB (postA l (i : Int)).f1 oid = false := by
  obtain ⟨⟨i, rfl, hi⟩, hs⟩ := hg
  refine ⟨i, rfl, hi, ?_⟩
  unfold nxR at h
  by_cases h1 : (atB (postA l i).f1 oid || s.1 == l.length) = true
  · rw [if_pos h1] at h; cases h
  · rw [Bool.or_eq_true, not_or, beq_iff_eq] at h1
    exact ⟨by omega, by simpa using h1.1⟩
theorem steps_phi {l : List S36} (hv : Vat l l.length) (oid : Int) : ∀ (f : Nat) (p : Int) (s : Nat × Int × Bool), GoodR l p s → (stepsR (nxR l oid) f p s).length ≤ phiR l oid s + 1
  | 0, p, s, _ => Nat.zero_le _
  | f + 1, p, s, hg => by
    unfold stepsR
    by_cases h : (nxR l oid p s).1.2 = true
    rotate_left
    · rw [if_neg h]; simp
    rw [if_pos h, List.length_cons]
    have hgo := good_nxR hv oid p s hg h
    have ih := steps_phi hv oid f (nxR l oid p s).1.1 (nxR l oid p s).2 hgo.1
    have hs : phiR l oid (nxR l oid p s).2 + 1 ≤ phiR l oid s := by
      clear ih hgo
      obtain ⟨i, rfl, hi, hr, ha⟩ := go_nxR hg h
      obtain ⟨row, t, b⟩ := s
      rcases step_nxR (t := t) (f := b) hr ha with ⟨_, e, hrho⟩ | e
      · rw [e]
        exact phi_step hrho hr
      · rw [e]
        show rho l oid t * l.length + (l.length - (row + 1)) + 1 ≤ rho l oid t * l.length + (l.length - row)
        have : row < l.length := hr
        omega
    omega
theorem route_len {l : List S36} (hv : Vat l l.length) (oid t : Int) {p : Nat} (hp : p < l.length) : (routeS l oid p t).length ≤ (l.length + 1) * l.length + 1 := by
  refine Nat.le_trans (steps_phi hv oid _ p (0, t, false) ⟨⟨p, rfl, hp⟩, Nat.zero_le _⟩) (Nat.succ_le_succ ?_)
  show rho l oid t * l.length + (l.length - 0) ≤ _
  have := Nat.mul_le_mul_right l.length (rho_le l oid t)
  rw [Nat.add_mul, Nat.one_mul]
  omega
/-- none of the places behind has it -/
def RowN (l : List S36) (oid : Int) (p : Int) (row : Nat) : Prop := ∀ i k : Nat, i < l.length → 1 ≤ k → k ≤ row → ((i + k : Nat) = p ∨ (i + k : Nat) = p + l.length) → atB (postA l (i : Int)).f1 oid = false
theorem row_next {l : List S36} {oid : Int} {p row : Nat} (h : RowN l oid p row) (hp : p < l.length) (ha : atB (postA l (p : Int)).f1 oid = false) : RowN l oid (((p + 1) % l.length : Nat) : Int) (row + 1) := by
  intro i k hi h1 h2 h3
  by_cases hw : p + 1 = l.length
  · rw [hw, Nat.mod_self] at h3
    by_cases hk : k = 1
    · have : i = p := by omega
      rw [this]; exact ha
    · exact h i (k - 1) hi (by omega) (by omega) (by omega)
  · rw [Nat.mod_eq_of_lt (by omega)] at h3
    by_cases hk : k = 1
    · have : i = p := by omega
      rw [this]; exact ha
    · exact h i (k - 1) hi (by omega) (by omega) (by omega)
theorem row_all {l : List S36} {oid : Int} {p : Nat} (hp : p < l.length) (h : RowN l oid p l.length) : (whereL l oid).2 = false := by
  cases hb : (whereL l oid).2 with
  | false => rfl
  | true =>
    obtain ⟨i, x, h1, h2, _⟩ := where_some hb
    have hi := (List.getElem?_eq_some_iff.1 h1).1
    have : atB (postA l (i : Int)).f1 oid = false := by
      by_cases hc : i < p
      · exact h i (p - i) hi (by omega) (by omega) (by omega)
      · exact h i (p + l.length - i) hi (by omega) (by omega) (by omega)
    rw [postA_some h1, h2] at this
    cases this
theorem steps_found {l : List S36} (hv : Vat l l.length) (oid : Int) : ∀ (f : Nat) (p : Int) (s : Nat × Int × Bool), GoodR l p s → RowN l oid p s.1 → muR l oid s < f → (stepsE (nxR l oid) f p s).2.2 = (whereL l oid).2
  | 0, p, s, _, _, h => by omega
  | f + 1, p, s, hg, hr, hm => by
    unfold stepsE
    by_cases h : (nxR l oid p s).1.2 = true
    · rw [if_pos h]
      have hgo := good_nxR hv oid p s hg h
      refine steps_found hv oid f _ _ hgo.1 ?_ (by omega)
      obtain ⟨i, rfl, hi, hr1, ha⟩ := go_nxR hg h
      obtain ⟨row, t, b⟩ := s
      rcases step_nxR (t := t) (f := b) hr1 ha with ⟨_, e, _⟩ | e
      · rw [e]
        intro j k _ h1 h2
        have : k ≤ 0 := h2
        omega
      · rw [e]
        exact row_next hr hi ha
    · rw [if_neg h]
      obtain ⟨⟨i, rfl, hi⟩, hs⟩ := hg
      unfold nxR at h ⊢
      by_cases h1 : (atB (postA l i).f1 oid || s.1 == l.length) = true
      rotate_left
      · rw [if_neg h1] at h; exact absurd rfl h
      rw [if_pos h1]
      show atB (postA l i).f1 oid = _
      by_cases h2 : atB (postA l i).f1 oid = true
      · rw [h2, where_mem (post_mem1 l i oid h2) h2]
      · rw [Bool.or_eq_true, beq_iff_eq] at h1
        have h3 : s.1 = l.length := h1.resolve_left h2
        rw [h3] at hr
        rw [row_all hi hr]
        simpa using h2
theorem route_found {l : List S36} {oid place time : Int} (hc : checkF l = true) (ho : 1 ≤ oid) (hp : 0 ≤ place ∧ place < l.length) :
    ((routeF l place oid time).2.2 ≠ 0 → time < -1 ∨ 1099511627776 < time) ∧
    ((routeF l place oid time).2.2 = 0 → (routeF l place oid time).2.1 = (whereL l oid).2 ∧ (routeF l place oid time).1.length ≤ (l.length + 1) * l.length + 1) := by
  have hv := check_vat hc
  unfold routeF
  by_cases ht : timeOk oid time = true
  · have hg := given_of (l := l) (ok := timeOk oid time) (ps := [place]) hc ht (fun p hm => by rw [List.mem_singleton] at hm; rw [hm]; exact hp)
    rw [if_pos hg]
    obtain ⟨i, rfl⟩ : ∃ i : Nat, place = (i : Int) := ⟨place.toNat, (Int.toNat_of_nonneg hp.1).symm⟩
    refine ⟨fun h => absurd rfl h, fun _ => ⟨?_, route_len hv oid time (by omega)⟩⟩
    exact steps_found hv oid _ i (0, time, false) ⟨⟨i, rfl, by omega⟩, Nat.zero_le _⟩ (fun j k _ h1 h2 => by have : k ≤ 0 := h2; omega) (Nat.lt_succ_self _)
  · have hf : timeOk oid time = false := by simpa using ht
    have hne : ¬ (givenC l (timeOk oid time) [place] = 0) := by
      unfold givenC
      rw [if_pos hc, hf, if_pos (by simp)]
      simp
    rw [if_neg hne]
    refine ⟨fun _ => ?_, fun h => absurd h hne⟩
    unfold timeOk at hf
    rw [decide_eq_true ho, Bool.true_and, Bool.and_eq_false_iff, decide_eq_false_iff_not, decide_eq_false_iff_not] at hf
    omega
end Go.Proofs.Ytjnceoohlcchnaa.Print

/-! what a second search finds -/
namespace Go.Proofs.Ytjnceoohlcchnaa.Print
open Go Go.RowKit Go.Deep Go.Proofs.YtjnceoohlcchnaaW.PrintWords Go.Proofs.YtjnceoohlcchnaaW.PrintLast Go.Proofs.YtjnceoohlcchnaaW.PrintMore
def Agreed (h : S31) (p q : S36) : Prop := q.f0 = p.f0 ∧ q.f1 = p.f1 ∧ ((atB q.f2 h.f0 = atB p.f2 h.f0 ∧ lookL q.f2 h.f0 = lookL p.f2 h.f0) ∨ (atB q.f2 h.f0 = true ∧ lookL q.f2 h.f0 = h ∧ atB p.f1 h.f0 = false ∧ (atB p.f2 h.f0 = true → (lookL p.f2 h.f0).f2 < h.f2)))
/-- a map some of whose places were told a hint -/
structure Told (l n : List S36) (h : S31) : Prop where
  len : n.length = l.length
  vat : Vat n l.length
  agr : Agrees n h
  at' : ∀ (i : Nat) (p : S36), l[i]? = some p → ∃ q, n[i]? = some q ∧ Agreed h p q
theorem told_refl {l : List S36} {h : S31} {a : Nat} (hv : Vat l l.length) (hh : HasAt l a h) : Told l l h :=
  ⟨rfl, hv, agrees_has hv hh, fun _ p hp => ⟨p, hp, rfl, rfl, .inl ⟨rfl, rfl⟩⟩⟩
theorem told_tell {l n : List S36} {h : S31} (T : Told l n h) (hh : HintV l.length h) {i : Nat} {x : S36} (hi : n[i]? = some x) (hup : x.f0 = true) : Told l (tellF n i h).2 h := by
  refine ⟨by rw [tell_len, T.len], vat_tell T.vat hi hh hup T.agr, agrees_tell hi T.agr, fun j p hp => ?_⟩
  obtain ⟨q, hq, e1, e2, e3⟩ := T.at' j p hp
  rcases tell_cases hi h with ⟨e, _⟩ | ⟨e, c1, c2⟩
  · rw [e]; exact ⟨q, hq, e1, e2, e3⟩
  · rw [e]
    dsimp only
    rw [set_at hi]
    by_cases hj : j = i
    · subst hj
      rw [if_pos rfl]
      rw [hi] at hq
      cases hq
      have hs := (T.vat.ok x (List.mem_of_getElem? hi)).hints.sorted
      obtain ⟨q1, q2⟩ := look_of_mem (put_sorted hs h) (x := h) (put_mem.2 (.inl rfl))
      refine ⟨_, rfl, e1, e2, .inr ⟨q1, q2, by rw [← e2]; exact c1, fun hb => ?_⟩⟩
      rcases e3 with ⟨r1, r2⟩ | ⟨_, _, _, r4⟩
      · rcases c2 with c2 | c2
        · rw [← r2]; exact c2.2
        · rw [← r1, c2.1] at hb; cases hb
      · exact r4 hb
    · rw [if_neg hj]
      exact ⟨q, hq, e1, e2, e3⟩
def Knows (n : List S36) (i : Nat) (h : S31) : Prop := ∃ q, n[i]? = some q ∧ (atB q.f1 h.f0 = true ∨ atB q.f2 h.f0 = true ∧ h.f2 ≤ (lookL q.f2 h.f0).f2)
theorem knows_tell {n : List S36} {m : Int} (hv : Vat n m) {h : S31} {i j : Nat} {x : S36} (hj : n[j]? = some x) (hk : Knows n i h ∨ i = j ∧ (tellF n j h).1 = true) : Knows (tellF n j h).2 i h := by
  rcases tell_cases hj h with ⟨e, c⟩ | ⟨e, _, _⟩
  · rw [e]
    rcases hk with hk | ⟨rfl, hk⟩
    · exact hk
    · exact ⟨x, hj, c hk⟩
  · rw [e]
    dsimp only
    unfold Knows
    rw [set_at hj]
    by_cases hij : i = j
    · rw [if_pos hij]
      obtain ⟨q1, q2⟩ := look_of_mem (put_sorted (hv.ok x (List.mem_of_getElem? hj)).hints.sorted h) (x := h) (put_mem.2 (.inl rfl))
      exact ⟨_, rfl, .inr ⟨q1, by dsimp only; rw [q2]; exact Int.le_refl _⟩⟩
    · rw [if_neg hij]
      exact hk.elim id (fun c => absurd c.1 hij)
theorem post_none {l : List S36} {i : Int} (h : l[i.toNat]? = none) : postA l i = ⟨false, [], []⟩ := by
  unfold postA
  rw [List.getD_eq_getElem?_getD, h]; rfl
theorem post_is {l : List S36} {i : Int} {x : S36} (h : l[i.toNat]? = some x) : postA l i = x := by
  unfold postA
  rw [List.getD_eq_getElem?_getD, h]; rfl
theorem tells_told {l : List S36} {h : S31} (hh : HintV l.length h) : ∀ (ps : List Int) (n r : List S36), Told l n h → tellsF h ps n = some r → Told l r h ∧ (∀ i : Nat, Knows n i h ∨ ((i : Int) ∈ ps ∧ (postA n i).f0 = true) → Knows r i h)
  | [], n, r, T, e => by
    unfold tellsF at e
    cases e
    exact ⟨T, fun i hi => hi.elim id (fun c => by cases c.1)⟩
  | p :: ps, n, r, T, e => by
    unfold tellsF at e
    by_cases h1 : (postA n p).f0 = true
    · rw [if_pos h1] at e
      by_cases h2 : (tellF n p.toNat h).1 = true
      · rw [if_pos h2] at e
        cases hx : n[p.toNat]? with
        | none => rw [post_none hx] at h1; cases h1
        | some x =>
          have h1x : x.f0 = true := by rw [← post_is hx]; exact h1
          obtain ⟨T2, K⟩ := tells_told hh ps _ r (told_tell T hh hx h1x) e
          refine ⟨T2, fun i hi => ?_⟩
          rcases hi with hi | ⟨hi, hu⟩
          · exact K i (.inl (knows_tell T.vat hx (.inl hi)))
          · rcases List.mem_cons.1 hi with hi | hi
            · subst hi
              exact K i (.inl (knows_tell T.vat hx (.inr ⟨by rw [Int.toNat_natCast], h2⟩)))
            · refine K i (.inr ⟨hi, ?_⟩)
              cases hy : n[i]? with
              | none => rw [post_none (i := (i : Int)) (by rw [Int.toNat_natCast]; exact hy)] at hu; cases hu
              | some y =>
                rw [postA_some hy] at hu
                rcases tell_cases hx h with ⟨e, _⟩ | ⟨e, _, _⟩
                · rw [e, postA_some hy]; exact hu
                · rw [e]
                  dsimp only
                  by_cases hij : i = p.toNat
                  · rw [postA_some (x := ⟨x.f0, x.f1, putL x.f2 h⟩) (by rw [set_at hx, if_pos hij])]
                    exact h1x
                  · rw [postA_some (x := y) (by rw [set_at hx, if_neg hij]; exact hy)]
                    exact hu
      · rw [if_neg h2] at e; cases e
    · rw [if_neg h1] at e
      obtain ⟨T2, K⟩ := tells_told hh ps n r T e
      refine ⟨T2, fun i hi => K i (hi.elim .inl (fun c => ?_))⟩
      rcases List.mem_cons.1 c.1 with hi | hi
      · rw [← hi] at h1; exact absurd c.2 h1
      · exact .inr ⟨hi, c.2⟩
theorem told_post {l n : List S36} {h : S31} (T : Told l n h) (p : Int) : Agreed h (postA l p) (postA n p) := by
  cases hx : l[p.toNat]? with
  | none =>
    have : n[p.toNat]? = none := by
      rw [List.getElem?_eq_none_iff] at hx ⊢
      rw [T.len]; exact hx
    rw [post_none hx, post_none this]
    exact ⟨rfl, rfl, .inl ⟨rfl, rfl⟩⟩
  | some x =>
    obtain ⟨q, hq, e⟩ := T.at' _ x hx
    rw [post_is hx, post_is hq]
    exact e
theorem told_has {l n : List S36} {h g : S31} (T : Told l n h) {i : Nat} (hg : HasAt l i g) : HasAt n i g := by
  obtain ⟨p, hp, hm⟩ := hg
  obtain ⟨q, hq, _, e, _⟩ := T.at' i p hp
  exact ⟨q, hq, by rw [e]; exact hm⟩
theorem told_where {l n : List S36} {h : S31} {a : Nat} (T : Told l n h) (hh : HasAt l a h) : whereL n h.f0 = (h, true) := has_where T.vat (told_has T hh)
theorem told_check {l n : List S36} {h : S31} (T : Told l n h) (hc : checkF l = true) : checkF n = true := by
  have hm := (check_iff l).1 hc
  refine (check_iff n).2 ⟨by rw [T.len]; exact hm.one, by rw [T.len]; exact hm.most, ?_⟩
  rw [T.len]
  exact (vat_iff _ _).2 T.vat
theorem lastI_one (p : Int) : lastI [p] = p := rfl
theorem lastI_cons (p : Int) {r : List Int} (h : r ≠ []) : lastI (p :: r) = lastI r := by
  unfold lastI
  cases r with
  | nil => exact absurd rfl h
  | cons a r =>
    rw [List.length_cons, Nat.add_sub_cancel, List.length_cons, List.getD_cons_succ, Nat.add_sub_cancel]
theorem steps_ne {σ : Type} (nx : Int → σ → (Int × Bool) × σ) (f : Nat) (p : Int) (s : σ) : stepsR nx (f + 1) p s ≠ [] := by
  unfold stepsR
  exact List.cons_ne_nil _ _
theorem stepsR_go {σ : Type} {nx : Int → σ → (Int × Bool) × σ} {f : Nat} {p : Int} {s : σ} {q : Int} {s2 : σ} (h : nx p s = ((q, true), s2)) : stepsR nx (f + 1) p s = p :: stepsR nx f q s2 := by
  rw [stepsR, h, if_pos rfl]
theorem stepsR_stop {σ : Type} {nx : Int → σ → (Int × Bool) × σ} {f : Nat} {p : Int} {s : σ} (h : ¬ (nx p s).1.2 = true) : stepsR nx (f + 1) p s = [p] := by
  rw [stepsR, if_neg h]
/-- where the object is, one stays -/
theorem stay_nxH {n : List S36} {oid p t : Int} (h : atB (postA n p).f1 oid = true) (f : Nat) : stepsR (nxH n oid) (f + 1) p t = [p] := by
  have : (nxH n oid p t).1.2 = false := by unfold nxH; rw [if_pos h]
  unfold stepsR
  rw [this]
  rfl
theorem has_atB {l : List S36} {m : Int} (hv : Vat l m) {a : Nat} {h : S31} (hh : HasAt l a h) : atB (postA l (a : Int)).f1 h.f0 = true := by
  obtain ⟨p, hp, hm⟩ := hh
  rw [postA_some hp]
  exact at_of_mem (hv.ok p (List.mem_of_getElem? hp)).has.sorted hm
/-- what a hint of the object says -/
theorem hint_old {l : List S36} {m : Int} (hv : Vat l m) {a : Nat} {h : S31} (hh : HasAt l a h) {p : Int} (hb : atB (postA l p).f2 h.f0 = true) : (lookL (postA l p).f2 h.f0).f2 < h.f2 ∨ (lookL (postA l p).f2 h.f0).f2 = h.f2 ∧ (lookL (postA l p).f2 h.f0).f1 = h.f1 := by
  have hm := post_mem l p _ hb
  obtain ⟨a1, a2⟩ := at_found hb
  obtain ⟨j, hj⟩ := hint_of hm a1
  exact hv.older a j h _ hh hj a2.symm
theorem shorter {l n : List S36} {h : S31} {a : Nat} (hv : Vat l l.length) (hh : HasAt l a h) (T : Told l n h) : ∀ (f : Nat) (p t : Int), rho l h.f0 t + 2 ≤ f → (t < h.f2 ∨ p = h.f1) →
    ((stepsR (nxH n h.f0) f p t).length = (stepsR (nxH l h.f0) f p t).length ∧ lastI (stepsR (nxH n h.f0) f p t) = lastI (stepsR (nxH l h.f0) f p t)) ∨
    (foundB n h.f0 (stepsR (nxH n h.f0) f p t) = true ∧ (stepsR (nxH n h.f0) f p t).length ≤ (stepsR (nxH l h.f0) f p t).length + (if foundB l h.f0 (stepsR (nxH l h.f0) f p t) = true then 0 else 1))
  | 0, _, _, h0, _ => by omega
  | 1, _, _, h0, _ => by omega
  | f + 2, p, t, h0, hi => by
    obtain ⟨e0, e1, e2⟩ := told_post T p
    have hha : h.f1 = (a : Int) := hv.here a h hh
    by_cases c1 : atB (postA l p).f1 h.f0 = true
    · rw [stay_nxH c1, stay_nxH (by rw [e1]; exact c1)]
      exact .inl ⟨rfl, rfl⟩
    have c1n : ¬ atB (postA n p).f1 h.f0 = true := by rw [e1]; exact c1
    have ht : t < h.f2 := hi.resolve_right (fun e => c1 (by rw [e, hha]; exact has_atB hv hh))
    rcases e2 with ⟨g1, g2⟩ | ⟨g1, g2, g3, g4⟩
    · -- the same hint
      have en : nxH n h.f0 p t = nxH l h.f0 p t := by
        unfold nxH
        rw [if_neg c1, if_neg c1n, g1, g2]
      by_cases hgo : (nxH l h.f0 p t).1.2 = true
      · have c2 : (atB (postA l p).f2 h.f0 && decide (t < (lookL (postA l p).f2 h.f0).f2)) = true := by
          unfold nxH at hgo
          rw [if_neg c1] at hgo
          by_cases c2 : (atB (postA l p).f2 h.f0 && decide (t < (lookL (postA l p).f2 h.f0).f2)) = true
          · exact c2
          · rw [if_neg c2] at hgo; cases hgo
        have ev : nxH l h.f0 p t = (((lookL (postA l p).f2 h.f0).f1, true), (lookL (postA l p).f2 h.f0).f2) := by
          unfold nxH
          rw [if_neg c1, if_pos c2]
        have hb : atB (postA l p).f2 h.f0 = true := by rw [Bool.and_eq_true] at c2; exact c2.1
        have hr := rho_lt (t := t) (post_mem l p _ hb) (show newer h.f0 t _ = true from c2)
        have ho := hint_old hv hh hb
        have ih := shorter hv hh T (f + 1) (lookL (postA l p).f2 h.f0).f1 (lookL (postA l p).f2 h.f0).f2 (by omega) (ho.elim .inl (fun c => .inr c.2))
        rw [stepsR_go (f := f + 1) ev, stepsR_go (f := f + 1) (en.trans ev)]
        have n1 := steps_ne (nxH l h.f0) f (lookL (postA l p).f2 h.f0).f1 (lookL (postA l p).f2 h.f0).f2
        have n2 := steps_ne (nxH n h.f0) f (lookL (postA l p).f2 h.f0).f1 (lookL (postA l p).f2 h.f0).f2
        generalize stepsR (nxH l h.f0) (f + 1) (lookL (postA l p).f2 h.f0).f1 (lookL (postA l p).f2 h.f0).f2 = A at ih n1 ⊢
        generalize stepsR (nxH n h.f0) (f + 1) (lookL (postA l p).f2 h.f0).f1 (lookL (postA l p).f2 h.f0).f2 = B at ih n2 ⊢
        unfold foundB at ih ⊢
        rw [lastI_cons p n1, lastI_cons p n2, List.length_cons, List.length_cons]
        rcases ih with ⟨i1, i2⟩ | ⟨i1, i2⟩
        · exact .inl ⟨by omega, i2⟩
        · exact .inr ⟨i1, by omega⟩
      · rw [stepsR_stop (f := f + 1) hgo, stepsR_stop (f := f + 1) (by rw [en]; exact hgo)]
        exact .inl ⟨rfl, rfl⟩
    · -- it was told
      right
      have ev : nxH n h.f0 p t = ((h.f1, true), h.f2) := by
        unfold nxH
        rw [if_neg c1n, g1, g2, decide_eq_true ht]
        rfl
      have hs : stepsR (nxH n h.f0) (f + 2) p t = [p, h.f1] := by
        have hst : atB (postA n h.f1).f1 h.f0 = true := by rw [hha]; exact has_atB T.vat (told_has T hh)
        rw [stepsR_go (f := f + 1) ev, stay_nxH hst]
      rw [hs]
      refine ⟨?_, ?_⟩
      · unfold foundB
        rw [show lastI [p, h.f1] = h.f1 from rfl, hha]
        exact has_atB T.vat (told_has T hh)
      · rw [show [p, h.f1].length = 2 from rfl]
        by_cases hgo : (nxH l h.f0 p t).1.2 = true
        · have n1 := List.length_pos_iff.2 (steps_ne (nxH l h.f0) f (nxH l h.f0 p t).1.1 (nxH l h.f0 p t).2)
          rw [stepsR_go (f := f + 1) (nx := nxH l h.f0) (p := p) (s := t) (q := (nxH l h.f0 p t).1.1) (s2 := (nxH l h.f0 p t).2) (Prod.ext (Prod.ext rfl hgo) rfl), List.length_cons]
          omega
        · rw [stepsR_stop (f := f + 1) hgo, if_neg]
          · exact Nat.le_refl _
          · unfold foundB
            rw [lastI_one]
            exact c1
theorem ask_mono (place hp : Int) : ∀ (m p : Nat) (f : Bool) (s : Nat), s ≤ askN place hp m p f s
  | 0, _, _, s => Nat.le_refl _
  | m + 1, p, f, s => by
    unfold askN
    split
    · exact Nat.le_refl _
    · split
      · exact ask_mono place hp m (p + 1) f s
      · exact Nat.le_trans (Nat.le_succ _) (ask_mono place hp m (p + 1) _ (s + 1))
theorem ask_gt (place hp : Int) {q : Nat} (hq : (q : Int) ≠ place) : ∀ (m p s : Nat), p ≤ q → q < p + m → s + 1 ≤ askN place hp m p false s
  | 0, p, s, h1, h2 => by omega
  | m + 1, p, s, h1, h2 => by
    unfold askN
    rw [if_neg (by simp)]
    split
    · next h =>
      rw [beq_iff_eq] at h
      have : p ≠ q := fun e => hq (by rw [← e]; exact h)
      exact ask_gt place hp hq m (p + 1) s (by omega) (by omega)
    · exact ask_mono place hp m (p + 1) _ (s + 1)
/-- the parts of a search that found something -/
theorem search_ok {l : List S36} {place oid : Int} (h0 : (searchF l place oid).2.2.2 = 0) : ∃ (a : Nat) (h : S31) (b : Nat), checkF l = true ∧ 1 ≤ oid ∧ place = (b : Int) ∧ b < l.length ∧ (postA l place).f0 = true ∧ whereL l oid = (h, true) ∧ h.f0 = oid ∧ h.f1 = (a : Int) ∧ HasAt l a h ∧ HintV l.length h ∧
    ((a = b ∧ searchF l place oid = (l, h, 0, 0)) ∨ (a ≠ b ∧ ∃ r, tellsF h (place :: followL l oid place) l = some r ∧ searchF l place oid = (r, h, ((askN place h.f1 l.length 0 (foundB l oid (followL l oid place)) (followL l oid place).length : Nat) : Int), 0))) := by
  unfold searchF at h0 ⊢
  by_cases g : givenC l (decide (1 ≤ oid)) [place] = 0
  rotate_left
  · rw [if_neg g] at h0; exact absurd h0 g
  rw [if_pos g] at h0 ⊢
  obtain ⟨g1, g2, _, _⟩ := given_in g
  obtain ⟨b, hb, hbl, _⟩ := given_post g
  have hv := check_vat g2
  by_cases h1 : (postA l place).f0 = true
  rotate_left
  · rw [if_neg h1] at h0; cases h0
  rw [if_pos h1] at h0 ⊢
  by_cases h2 : (whereL l oid).2 = true
  rotate_left
  · rw [if_neg h2] at h0; cases h0
  rw [if_pos h2] at h0 ⊢
  obtain ⟨a, x, ha, hx, hhas, h00, hhv⟩ := has_here hv h2
  refine ⟨a, (whereL l oid).1, b, g2, by simpa using g1, hb, hbl, h1, Prod.ext rfl h2, h00, ha, hhas, hhv, ?_⟩
  by_cases h3 : ((whereL l oid).1.f1 == place) = true
  · rw [if_pos h3]
    rw [beq_iff_eq] at h3
    exact .inl ⟨by omega, rfl⟩
  · rw [if_neg h3] at h0 ⊢
    rw [beq_iff_eq] at h3
    refine .inr ⟨fun e => h3 (by rw [ha, hb, e]), ?_⟩
    cases ht : tellsF (whereL l oid).1 (place :: followL l oid place) l with
    | none => rw [ht] at h0; cases h0
    | some r => exact ⟨r, rfl, rfl⟩
/-- what a search in a told map comes to -/
theorem told_search {l n : List S36} {h : S31} {a : Nat} (hc : checkF l = true) (hh : HasAt l a h) (T : Told l n h) (ho : 1 ≤ h.f0) {b : Nat} (hb : b < l.length) (hup : (postA l (b : Int)).f0 = true) :
    (a = b → searchF n (b : Int) h.f0 = (n, h, 0, 0)) ∧ (a ≠ b → searchF n (b : Int) h.f0 = searchO h (askN (b : Int) h.f1 n.length 0 (foundB n h.f0 (followL n h.f0 (b : Int))) (followL n h.f0 (b : Int)).length) (tellsF h ((b : Int) :: followL n h.f0 (b : Int)) n)) := by
  have hg : givenC n (decide (1 ≤ h.f0)) [(b : Int)] = 0 := given_of (told_check T hc) (decide_eq_true ho) (fun p hm => by rw [List.mem_singleton] at hm; rw [hm, T.len]; omega)
  have hha : h.f1 = (a : Int) := (check_vat hc).here a h hh
  unfold searchF
  rw [if_pos hg, (told_post T (b : Int)).1, if_pos hup, told_where T hh, if_pos rfl]
  dsimp only
  refine ⟨fun e => ?_, fun e => ?_⟩
  · rw [if_pos (by rw [hha, e]; simp)]
  · rw [if_neg (by rw [hha, beq_iff_eq]; omega)]
/-- SHORTER WAYS -/
theorem again {l : List S36} {place oid : Int} (other : Int) (h0 : (searchF l place oid).2.2.2 = 0) : ∃ (n : List S36) (h : S31) (s1 s2 : Int), searchF l place oid = (n, h, s1, 0) ∧ searchF n place oid = (n, h, s2, 0) ∧ s2 ≤ 2 ∧ checkF n = true ∧
    ((searchF l other oid).2.2.2 ≠ 0 ∨ ((searchF n other oid).2.2.2 = 0 ∧ (searchF n other oid).2.2.1 ≤ (searchF l other oid).2.2.1) ∨ (searchF n other oid).2.2.2 = 2) := by
  obtain ⟨a, h, b, hc, ho, rfl, hbl, hup, hw, rfl, hf1, hh, hhv, hcase⟩ := search_ok h0
  have hv := check_vat hc
  have ho' : ∀ n, Told l n h → ((searchF l other h.f0).2.2.2 ≠ 0 ∨ ((searchF n other h.f0).2.2.2 = 0 ∧ (searchF n other h.f0).2.2.1 ≤ (searchF l other h.f0).2.2.1) ∨ (searchF n other h.f0).2.2.2 = 2) := by
    intro n T
    by_cases g0 : (searchF l other h.f0).2.2.2 = 0
    rotate_left
    · exact .inl g0
    right
    obtain ⟨a', h', c, _, _, rfl, hcl, hup2, hw2, _, hf2, hh2, _, hcase2⟩ := search_ok g0
    rw [hw] at hw2
    injection hw2 with hw3 _
    subst hw3
    have haa : a' = a := by omega
    subst haa
    obtain ⟨t1, t2⟩ := told_search hc hh T ho hcl hup2
    rcases hcase2 with ⟨e, hs⟩ | ⟨e, r, _, hs⟩
    · rw [t1 e, hs]
      exact .inl ⟨rfl, Int.le_refl _⟩
    · rw [t2 e, hs]
      cases ht : tellsF h ((c : Int) :: followL n h.f0 (c : Int)) n with
      | none => exact .inr rfl
      | some r2 =>
        refine .inl ⟨rfl, ?_⟩
        show ((askN _ _ _ _ _ _ : Nat) : Int) ≤ ((askN _ _ _ _ _ _ : Nat) : Int)
        have hsh := shorter hv hh T 1099511627778 (c : Int) (-1) (by have := rho_le l h.f0 (-1); have := ((check_iff l).1 hc).most; omega) (.inl (by have := hhv.t0; omega))
        have hal := (List.getElem?_eq_some_iff.1 hh.choose_spec.1).1
        have hg := ask_gt (c : Int) h.f1 (q := a') (by omega) l.length 0 (followL l h.f0 (c : Int)).length (Nat.zero_le _) (by omega)
        rw [T.len]
        unfold followL at hg ⊢
        generalize stepsR (nxH l h.f0) 1099511627778 (c : Int) (-1) = A at hsh hg ⊢
        generalize stepsR (nxH n h.f0) 1099511627778 (c : Int) (-1) = B at hsh ⊢
        rcases hsh with ⟨i1, i2⟩ | ⟨i1, i2⟩
        · have : foundB n h.f0 B = foundB l h.f0 A := by unfold foundB; rw [i2, (told_post T _).2.1]
          rw [this, i1]
          exact Int.le_refl _
        · rw [i1, ask_found]
          cases hfa : foundB l h.f0 A with
          | true => rw [hfa, if_pos rfl] at i2; rw [ask_found]; omega
          | false => rw [hfa, if_neg (by simp)] at i2; omega
  rcases hcase with ⟨e, hs⟩ | ⟨e, r, ht, hs⟩
  · exact ⟨l, h, 0, 0, hs, hs, by decide, hc, ho' l (told_refl hv hh)⟩
  · obtain ⟨T, K⟩ := tells_told hhv _ l r (told_refl hv hh) ht
    have hk := K b (.inr ⟨List.mem_cons_self .., hup⟩)
    obtain ⟨q, hq, hk⟩ := hk
    have hpq : postA r (b : Int) = q := postA_some hq
    obtain ⟨_, t2⟩ := told_search hc hh T ho hbl hup
    have hn1 : ¬ atB (postA r (b : Int)).f1 h.f0 = true := by
      rw [(told_post T (b : Int)).2.1]
      intro hc1
      obtain ⟨m1, m2⟩ := at_found hc1
      obtain ⟨p, hp⟩ : ∃ p, l[b]? = some p := ⟨_, List.getElem?_eq_getElem hbl⟩
      rw [postA_some hp] at m1 m2
      have e2 := hv.once b a _ h ⟨p, hp, m1⟩ hh m2
      have := hv.here b _ ⟨p, hp, m1⟩
      rw [e2, hf1] at this
      omega
    have hk2 : atB (postA r (b : Int)).f2 h.f0 = true ∧ h.f2 ≤ (lookL (postA r (b : Int)).f2 h.f0).f2 := by
      rw [hpq]
      rw [hpq] at hn1
      exact hk.resolve_left hn1
    have hold := hint_old T.vat (told_has T hh) hk2.1
    have hl2 : (lookL (postA r (b : Int)).f2 h.f0).f2 = h.f2 := by rcases hold with c | c <;> omega
    have hl1 : (lookL (postA r (b : Int)).f2 h.f0).f1 = h.f1 := by rcases hold with c | c; omega; exact c.2
    have hst : atB (postA r h.f1).f1 h.f0 = true := by rw [hf1]; exact has_atB T.vat (told_has T hh)
    have hfol : followL r h.f0 (b : Int) = [(b : Int), h.f1] := by
      have n1 : nxH r h.f0 (b : Int) (-1) = ((h.f1, true), h.f2) := by
        unfold nxH
        rw [if_neg hn1, hk2.1, hl2, hl1, decide_eq_true (by have := hhv.t0; omega)]
        rfl
      unfold followL
      rw [show (1099511627778 : Nat) = 1099511627777 + 1 from rfl, stepsR_go n1, show (1099511627777 : Nat) = 1099511627776 + 1 from rfl, stay_nxH hst]
    have hfo : foundB r h.f0 [(b : Int), h.f1] = true := by
      unfold foundB
      rw [show lastI [(b : Int), h.f1] = h.f1 from rfl]
      exact hst
    have tb : tellF r b h = (true, r) := by
      unfold tellF
      rw [if_neg hn1, hk2.1, decide_eq_true hk2.2]
      rfl
    have ta : tellF r a h = (true, r) := by
      unfold tellF
      rw [← hf1, if_pos hst]
    have hupr : (postA r (b : Int)).f0 = true := by rw [(told_post T (b : Int)).1]; exact hup
    have htl : tellsF h [(b : Int), (b : Int), h.f1] r = some r := by
      unfold tellsF
      rw [if_pos hupr, Int.toNat_natCast, tb, if_pos rfl]
      dsimp only
      unfold tellsF
      rw [if_pos hupr, Int.toNat_natCast, tb, if_pos rfl]
      dsimp only
      unfold tellsF
      by_cases hua : (postA r h.f1).f0 = true
      · rw [if_pos hua, hf1, Int.toNat_natCast, ta, if_pos rfl]
        rfl
      · rw [if_neg hua]
        rfl
    refine ⟨r, h, _, 2, hs, ?_, by decide, told_check T hc, ho' r T⟩
    rw [t2 e, hfol, hfo, htl, ask_found]
    rfl
end Go.Proofs.Ytjnceoohlcchnaa.Print

/-! whatever is done to a map -/
namespace Go.Proofs.Ytjnceoohlcchnaa.Print
open Go Go.RowKit Go.Deep Go.Proofs.YtjnceoohlcchnaaW.PrintWords Go.Proofs.YtjnceoohlcchnaaW.PrintLast Go.Proofs.YtjnceoohlcchnaaW.PrintMore
def pickI (n k : Int) : Int := n % k
def keepF (m : List S36) (o : List S36 × Int) (plain : Bool) : List S36 × Bool := if o.2 = 0 then (o.1, plain) else (m, true)
def actO (m : List S36) (k : Int) (place oid : Int) : (List S36 × Int) × Bool :=
  if k = 0 ∨ k = 1 then (makeF m oid place, true)
  else if k = 2 ∨ k = 3 ∨ k = 4 then (moveF m oid place, true)
  else if k = 5 then (((searchF m place oid).1, (searchF m place oid).2.2.2), true)
  else if k = 6 then ((if (whereF m oid).2 = 0 then tellG m place (whereF m oid).1 else ([], 1)), true)
  else if k = 7 then (forgetF m place oid, false)
  else ((if (postA m place).f0 = true then ((crashF m place).1, (crashF m place).2.2) else recoverF m place []), false)
def actF (m : List S36) (kind a b : Int) : List S36 × Bool :=
  if m.length = 0 then (m, true) else keepF m (actO m (pickI kind 9) (pickI a m.length) (1 + pickI b 4)).1 (actO m (pickI kind 9) (pickI a m.length) (1 + pickI b 4)).2
/-- where a hint leads, the object is, or a newer one -/
def Live (l : List S36) : Prop := ∀ (i : Nat) (g : S31), HintAt l i g → ∃ r : Nat, g.f1 = (r : Int) ∧ ((∃ h, HasAt l r h ∧ h.f0 = g.f0) ∨ ∃ g', HintAt l r g' ∧ g'.f0 = g.f0 ∧ g.f2 < g'.f2)
def KnowsOf (l : List S36) (p : Nat) (oid : Int) : Prop := (∃ h, HasAt l p h ∧ h.f0 = oid) ∨ ∃ g, HintAt l p g ∧ g.f0 = oid
structure Step (l n : List S36) (plain : Bool) : Prop where
  chk : checkF n = true
  len : n.length = l.length
  live : plain = true → Live l → Live n
  knows : plain = true → ∀ p oid, KnowsOf l p oid → KnowsOf n p oid
theorem step_refl {l : List S36} (hc : checkF l = true) (b : Bool) : Step l l b := ⟨hc, rfl, fun _ h => h, fun _ _ _ h => h⟩
theorem step_false {l n : List S36} (hc : checkF n = true) (hl : n.length = l.length) : Step l n false := ⟨hc, hl, fun e => (by cases e), fun e => (by cases e)⟩
theorem make_step {l : List S36} {oid place : Int} (h : (makeF l oid place).2 = 0) : Step l (makeF l oid place).1 true := by
  unfold makeF at h ⊢
  by_cases c : givenC l (decide (1 ≤ oid)) [place] = 0
  rotate_left
  · rw [if_neg c] at h; exact absurd h c
  rw [if_pos c] at h ⊢
  by_cases d : ((l.any fun p => atB p.f1 oid || atB p.f2 oid) || !(postA l place).f0) = true
  · rw [if_pos d] at h; cases h
  rw [if_neg d] at h ⊢
  by_cases e : 4000 ≤ (postA l place).f1.length
  · rw [if_pos e] at h; cases h
  rw [if_neg e]
  obtain ⟨ho, hc, _, _⟩ := given_in c
  obtain ⟨i, hpi, hil, hx⟩ := given_post c
  rw [decide_eq_true_iff] at ho
  have hv := check_vat hc
  have hm := (check_iff l).1 hc
  rw [Bool.not_eq_true, Bool.or_eq_false_iff, List.any_eq_false] at d
  obtain ⟨d1, d2⟩ := d
  have hup : (postA l place).f0 = true := by simpa using d2
  have hk : ∀ p ∈ l, atB p.f1 oid = false ∧ atB p.f2 oid = false := fun p hp => by
    have := d1 p hp
    rwa [Bool.not_eq_true, Bool.or_eq_false_iff] at this
  have hv2 := vat_make hv hx (by omega) ho hup (by omega) hk
  have e1 : place.toNat = i := by omega
  rw [e1, hpi] at *
  have hk1 : ∀ j g, HasAt l j g → g.f0 ≠ oid := fun j g ⟨p, hp, hg⟩ e => by
    have hp2 := List.mem_of_getElem? hp
    have := at_of_mem (hv.ok p hp2).has.sorted hg
    rw [e, (hk p hp2).1] at this; cases this
  refine ⟨(check_iff _).2 ⟨by rw [List.length_set]; exact hm.one, by rw [List.length_set]; exact hm.most, by rw [List.length_set]; exact (vat_iff _ _).2 hv2⟩, List.length_set, fun _ L j g hg => ?_, fun _ p o hp => ?_⟩
  · rw [hint_keep hx] at hg
    obtain ⟨r, hr, k⟩ := L j g hg
    refine ⟨r, hr, ?_⟩
    rcases k with ⟨y, hy, ey⟩ | ⟨y, hy, ey, ty⟩
    · exact .inl ⟨y, (has_put hx).2 (.inr ⟨hy, fun q => hk1 _ _ hy q.2⟩), ey⟩
    · exact .inr ⟨y, (hint_keep hx).2 hy, ey, ty⟩
  · rcases hp with ⟨y, hy, ey⟩ | ⟨y, hy, ey⟩
    · exact .inl ⟨y, (has_put hx).2 (.inr ⟨hy, fun q => hk1 _ _ hy q.2⟩), ey⟩
    · exact .inr ⟨y, (hint_keep hx).2 hy, ey⟩
theorem move_step {l : List S36} {oid place : Int} (h : (moveF l oid place).2 = 0) : Step l (moveF l oid place).1 true := by
  obtain ⟨a, b, x, y, hh, m⟩ := move_ok h
  have M := m.moved
  have hv := check_vat m.chk
  obtain ⟨hid, hpl, ht⟩ := hh
  have e0 : hid = oid := m.f0
  subst e0
  have hold : ∀ j g, HintAt l j g → g.f0 = hid → g.f2 < ht + 1 := fun j g hg e => by
    have := hv.older a j _ g m.has hg e.symm
    dsimp only at this; omega
  refine ⟨m.chk2, m.len, fun _ L j g hg => ?_, fun _ p o hp => ?_⟩
  · rcases (M.hints j g).1 hg with ⟨rfl, rfl⟩ | ⟨hg, hn⟩
    · exact ⟨b, rfl, .inl ⟨⟨hid, b, ht + 1⟩, (M.has b _).2 (.inl ⟨rfl, rfl⟩), rfl⟩⟩
    · obtain ⟨r, hr, k⟩ := L j g hg
      refine ⟨r, hr, ?_⟩
      by_cases e : g.f0 = hid
      · rcases k with ⟨y', hy, ey⟩ | ⟨y', hy, ey, ty⟩
        · have : HasAt l r ⟨hid, hpl, ht⟩ := by
            rw [← hv.once r a y' _ hy m.has (by rw [ey, e])]; exact hy
          have hra : r = a := by
            have q1 := hv.here r _ this; have q2 := hv.here a _ m.has; omega
          subst hra
          exact .inr ⟨_, (M.hints r _).2 (.inl ⟨rfl, rfl⟩), by rw [e], hold j g hg e⟩
        · by_cases hb : r = b
          · exact .inl ⟨⟨hid, b, ht + 1⟩, (M.has r _).2 (.inl ⟨hb, rfl⟩), by rw [e]⟩
          · by_cases ha : r = a
            · subst ha
              exact absurd (ey.trans e).symm (hv.apart r _ y' m.has hy)
            · exact .inr ⟨y', (M.hints r _).2 (.inr ⟨hy, fun q => q.2.elim ha hb⟩), ey, ty⟩
      · rcases k with ⟨y', hy, ey⟩ | ⟨y', hy, ey, ty⟩
        · exact .inl ⟨y', (M.has r _).2 (.inr ⟨hy, fun q => e (ey.symm.trans q)⟩), ey⟩
        · exact .inr ⟨y', (M.hints r _).2 (.inr ⟨hy, fun q => e (ey.symm.trans q.1)⟩), ey, ty⟩
  · rcases hp with ⟨y', hy, ey⟩ | ⟨y', hy, ey⟩
    · by_cases e : o = hid
      · have : HasAt l p ⟨hid, hpl, ht⟩ := by
          rw [← hv.once p a y' _ hy m.has (by rw [ey, e])]; exact hy
        have hra : p = a := by
          have q1 := hv.here p _ this; have q2 := hv.here a _ m.has; omega
        exact .inr ⟨_, (M.hints p _).2 (.inl ⟨hra, rfl⟩), e.symm⟩
      · exact .inl ⟨y', (M.has p _).2 (.inr ⟨hy, fun q => e (ey.symm.trans q)⟩), ey⟩
    · by_cases e : o = hid
      · by_cases hb : p = b
        · exact .inl ⟨⟨hid, b, ht + 1⟩, (M.has p _).2 (.inl ⟨hb, rfl⟩), e.symm⟩
        · by_cases ha : p = a
          · exact .inr ⟨_, (M.hints p _).2 (.inl ⟨ha, rfl⟩), e.symm⟩
          · exact .inr ⟨y', (M.hints p _).2 (.inr ⟨hy, fun q => q.2.elim ha hb⟩), ey⟩
      · exact .inr ⟨y', (M.hints p _).2 (.inr ⟨hy, fun q => e (ey.symm.trans q.1)⟩), ey⟩
/-- a map some of whose places were told where an object is -/
structure Fed (l n : List S36) (h : S31) (a : Nat) : Prop where
  told : Told l n h
  has : HasAt n a h
  live : Live l → Live n
  knows : ∀ p oid, KnowsOf l p oid → KnowsOf n p oid
theorem fed_tell {l n : List S36} {h : S31} {a : Nat} (F : Fed l n h a) (hh : HintV l.length h) (h1 : h.f1 = (a : Int)) {i : Nat} {x : S36} (hi : n[i]? = some x) (hup : x.f0 = true) : Fed l (tellF n i h).2 h a := by
  have T := told_tell F.told hh hi hup
  refine ⟨T, ?_, ?_, ?_⟩
  · rcases tell_cases hi h with ⟨e, _⟩ | ⟨e, _, _⟩
    · rw [e]; exact F.has
    · rw [e]; exact (has_keep hi).2 F.has
  · intro L j g hg
    have L2 := F.live L
    rcases tell_cases hi h with ⟨e, _⟩ | ⟨e, c1, c2⟩
    · rw [e] at hg ⊢; exact L2 j g hg
    · rw [e] at hg ⊢
      dsimp only at hg ⊢
      rcases (hint_put hi).1 hg with ⟨rfl, rfl⟩ | ⟨hg, _⟩
      · exact ⟨a, h1, .inl ⟨g, (has_keep hi).2 F.has, rfl⟩⟩
      · obtain ⟨r, hr, k⟩ := L2 j g hg
        refine ⟨r, hr, ?_⟩
        rcases k with ⟨y, hy, ey⟩ | ⟨y, hy, ey, ty⟩
        · exact .inl ⟨y, (has_keep hi).2 hy, ey⟩
        · by_cases q : r = i ∧ y.f0 = h.f0
          · refine .inr ⟨h, (hint_put hi).2 (.inl ⟨q.1, rfl⟩), q.2.symm.trans ey, ?_⟩
            obtain ⟨q1, q2⟩ := q
            subst q1
            have hs := (F.told.vat.ok x (List.mem_of_getElem? hi)).hints.sorted
            obtain ⟨z1, z2⟩ := look_of_mem hs ((hint_in hi).1 hy)
            rw [q2] at z1 z2
            rw [z1, z2] at c2
            rcases c2 with c2 | c2
            · have := c2.2; omega
            · cases c2.1
          · exact .inr ⟨y, (hint_put hi).2 (.inr ⟨hy, q⟩), ey, ty⟩
  · intro p o hp
    have K2 := F.knows p o hp
    rcases tell_cases hi h with ⟨e, _⟩ | ⟨e, c1, c2⟩
    · rw [e]; exact K2
    · rw [e]
      dsimp only
      rcases K2 with ⟨y, hy, ey⟩ | ⟨y, hy, ey⟩
      · exact .inl ⟨y, (has_keep hi).2 hy, ey⟩
      · by_cases q : p = i ∧ y.f0 = h.f0
        · exact .inr ⟨h, (hint_put hi).2 (.inl ⟨q.1, rfl⟩), q.2.symm.trans ey⟩
        · exact .inr ⟨y, (hint_put hi).2 (.inr ⟨hy, q⟩), ey⟩
theorem feds {l : List S36} {h : S31} {a : Nat} (hh : HintV l.length h) (h1 : h.f1 = (a : Int)) : ∀ (ps : List Int) (n r : List S36), Fed l n h a → tellsF h ps n = some r → Fed l r h a
  | [], n, r, T, e => by
    unfold tellsF at e
    cases e
    exact T
  | p :: ps, n, r, T, e => by
    unfold tellsF at e
    by_cases c1 : (postA n p).f0 = true
    · rw [if_pos c1] at e
      by_cases c2 : (tellF n p.toNat h).1 = true
      · rw [if_pos c2] at e
        cases hx : n[p.toNat]? with
        | none => rw [post_none hx] at c1; cases c1
        | some x => exact feds hh h1 ps _ r (fed_tell T hh h1 hx (by rw [← post_is hx]; exact c1)) e
      · rw [if_neg c2] at e; cases e
    · rw [if_neg c1] at e
      exact feds hh h1 ps n r T e
theorem fed_step {l n : List S36} {h : S31} {a : Nat} (F : Fed l n h a) (hc : checkF l = true) : Step l n true := ⟨told_check F.told hc, F.told.len, fun _ => F.live, fun _ => F.knows⟩
theorem fed_refl {l : List S36} {h : S31} {a : Nat} (hc : checkF l = true) (hh : HasAt l a h) : Fed l l h a := ⟨told_refl (check_vat hc) hh, hh, fun h => h, fun _ _ h => h⟩
theorem search_step {l : List S36} {place oid : Int} (h0 : (searchF l place oid).2.2.2 = 0) : Step l (searchF l place oid).1 true := by
  obtain ⟨a, h, b, hc, ho, rfl, hbl, hup, hw, rfl, hf1, hh, hhv, hcase⟩ := search_ok h0
  rcases hcase with ⟨_, e⟩ | ⟨_, r, e1, e⟩
  · rw [e]; exact step_refl hc true
  · rw [e]
    exact fed_step (feds hhv hf1 _ _ _ (fed_refl hc hh) e1) hc
theorem whereF_ok {l : List S36} {oid : Int} (h : (whereF l oid).2 = 0) : checkF l = true ∧ whereL l oid = ((whereF l oid).1, true) := by
  unfold whereF at h ⊢
  by_cases c : givenC l (decide (1 ≤ oid)) [] = 0
  rotate_left
  · rw [if_neg c] at h; exact absurd h c
  rw [if_pos c] at h ⊢
  by_cases d : (whereL l oid).2 = true
  rotate_left
  · rw [if_neg d] at h; cases h
  rw [if_pos d]
  refine ⟨?_, Prod.ext rfl d⟩
  unfold givenC at c
  by_cases e : checkF l = true
  · exact e
  · rw [if_neg e] at c; cases c
theorem tell_step {l : List S36} {place oid : Int} (hw : (whereF l oid).2 = 0) (h : (tellG l place (whereF l oid).1).2 = 0) : Step l (tellG l place (whereF l oid).1).1 true := by
  obtain ⟨i, x, t⟩ := tell_ok h
  obtain ⟨hc, w⟩ := whereF_ok hw
  obtain ⟨a, y, ha, hy, hhas, h00, hhv⟩ := has_here (check_vat hc) (show (whereL l oid).2 = true by rw [w])
  rw [w] at ha hhas hhv
  rw [t.res]
  exact fed_step (fed_tell (fed_refl hc hhas) hhv ha t.at' t.up) hc
theorem forget_step {l : List S36} {place oid : Int} (h : (forgetF l place oid).2 = 0) : Step l (forgetF l place oid).1 false := by
  unfold forgetF at h ⊢
  by_cases c : givenC l (decide (1 ≤ oid)) [place] = 0
  rotate_left
  · rw [if_neg c] at h; exact absurd h c
  rw [if_pos c]
  obtain ⟨_, hc, _, _⟩ := given_in c
  obtain ⟨i, hpi, hil, hx⟩ := given_post c
  have hm := (check_iff l).1 hc
  have e1 : place.toNat = i := by omega
  rw [e1]
  have hv2 := vat_forget (check_vat hc) hx oid
  exact step_false ((check_iff _).2 ⟨by rw [List.length_set]; exact hm.one, by rw [List.length_set]; exact hm.most, by rw [List.length_set]; exact (vat_iff _ _).2 hv2⟩) List.length_set
theorem crash_step {l : List S36} {place : Int} (h : (crashF l place).2.2 = 0) : Step l (crashF l place).1 false := by
  obtain ⟨i, x, t⟩ := crash_ok h
  rw [t.crash]
  exact step_false t.chk2 List.length_set
theorem recover_step {l : List S36} {place : Int} {back : List S31} (h : (recoverF l place back).2 = 0) : Step l (recoverF l place back).1 false := by
  unfold recoverF at h ⊢
  by_cases c : givenC l true [place] = 0
  rotate_left
  · rw [if_neg c] at h; exact absurd h c
  rw [if_pos c] at h ⊢
  by_cases d : (postA l place).f0 = true
  · rw [if_pos d] at h; cases h
  rw [if_neg d] at h ⊢
  by_cases e : validF (backL l place back) l.length = true
  rotate_left
  · rw [if_neg e] at h; cases h
  rw [if_pos e]
  obtain ⟨_, hc, _, _⟩ := given_in c
  have hm := (check_iff l).1 hc
  have hl : (backL l place back).length = l.length := List.length_set
  refine step_false ((check_iff _).2 ⟨by rw [hl]; exact hm.one, by rw [hl]; exact hm.most, by rw [hl]; exact (valid_iff _ _).1 e⟩) hl
theorem keep_step {l : List S36} (hc : checkF l = true) {o : List S36 × Int} {plain : Bool} (h : o.2 = 0 → Step l o.1 plain) : Step l (keepF l o plain).1 (keepF l o plain).2 := by
  unfold keepF
  by_cases c : o.2 = 0
  · rw [if_pos c]; exact h c
  · rw [if_neg c]; exact step_refl hc true
theorem act_step {l : List S36} (hc : checkF l = true) (kind a b : Int) : Step l (actF l kind a b).1 (actF l kind a b).2 := by
  unfold actF
  by_cases c : l.length = 0
  · rw [if_pos c]; exact step_refl hc true
  rw [if_neg c]
  refine keep_step hc (fun h => ?_)
  unfold actO at h ⊢
  generalize pickI kind 9 = k at h ⊢
  generalize pickI a l.length = p at h ⊢
  generalize 1 + pickI b 4 = o at h ⊢
  by_cases k1 : k = 0 ∨ k = 1
  · rw [if_pos k1] at h ⊢; exact make_step h
  rw [if_neg k1] at h ⊢
  by_cases k2 : k = 2 ∨ k = 3 ∨ k = 4
  · rw [if_pos k2] at h ⊢; exact move_step h
  rw [if_neg k2] at h ⊢
  by_cases k3 : k = 5
  · rw [if_pos k3] at h ⊢; exact search_step h
  rw [if_neg k3] at h ⊢
  by_cases k4 : k = 6
  · rw [if_pos k4] at h ⊢
    dsimp only at h ⊢
    by_cases w : (whereF l o).2 = 0
    · rw [if_pos w] at h ⊢; exact tell_step w h
    · rw [if_neg w] at h; cases h
  rw [if_neg k4] at h ⊢
  by_cases k5 : k = 7
  · rw [if_pos k5] at h ⊢; exact forget_step h
  rw [if_neg k5] at h ⊢
  dsimp only at h ⊢
  by_cases w : (postA l p).f0 = true
  · rw [if_pos w] at h ⊢; exact crash_step h
  · rw [if_neg w] at h ⊢; exact recover_step h
/-- what stays, deed by deed -/
structure Deeds (n : Nat) (oid : Int) (m : List S36) (plain : Bool) (was : List Bool) : Prop where
  chk : checkF m = true
  len : m.length = n
  wlen : was.length = n
  live : plain = true → Live m
  knows : plain = true → ∀ p : Nat, was[p]? = some true → KnowsOf m p oid
def markF (was : List Bool) (m : List S36) (oid : Int) : List Bool := if (whereF m oid).2 = 0 then was.set (whereF m oid).1.f1.toNat true else was
theorem deeds_start {n : Nat} (h1 : 1 ≤ n) (h2 : n ≤ 16) (oid : Int) : Deeds n oid (newL n) true (List.replicate n false) := by
  have hp : ∀ p ∈ newL n, p = ⟨true, [], []⟩ := fun p h => (List.mem_replicate.1 h).2
  have k1 : ∀ j z, ¬ HasAt (newL n) j z := fun j z ⟨p, hp1, hz⟩ => by
    rw [hp p (List.mem_of_getElem? hp1)] at hz; cases hz
  have k2 : ∀ j z, ¬ HintAt (newL n) j z := fun j z ⟨p, hp1, hz⟩ => by
    rw [hp p (List.mem_of_getElem? hp1)] at hz; cases hz
  have hl : (newL n).length = n := List.length_replicate
  refine ⟨(check_iff _).2 ⟨by rw [hl]; exact h1, by rw [hl]; exact h2, (vat_iff _ _).2 ⟨fun p h => ?_, fun j h a => absurd a (k1 _ _), fun j g h a => absurd a (k1 _ _), fun a b g h c => absurd c (k1 _ _), fun a b g h c => absurd c (k2 _ _), fun a b g h c => absurd c (k1 _ _)⟩⟩, hl, List.length_replicate, fun _ i g h => absurd h (k2 _ _), fun _ p h => ?_⟩
  · rw [hp p h]; exact ⟨listed_nil _, listed_nil _, fun e => by cases e⟩
  · have := List.mem_of_getElem? h
    rw [List.mem_replicate] at this; cases this.2
theorem where_at {m : List S36} {oid : Int} (h : (whereF m oid).2 = 0) : ∃ a : Nat, (whereF m oid).1.f1 = (a : Int) ∧ a < m.length ∧ (whereF m oid).1.f0 = oid ∧ HasAt m a (whereF m oid).1 := by
  obtain ⟨hc, w⟩ := whereF_ok h
  obtain ⟨a, y, ha, hy, hhas, h00, hhv⟩ := has_here (check_vat hc) (show (whereL m oid).2 = true by rw [w])
  rw [w] at ha h00 hhas
  obtain ⟨hl, _⟩ := List.getElem?_eq_some_iff.1 hy
  exact ⟨a, ha, hl, h00, hhas⟩
theorem deeds_step {n : Nat} {oid : Int} {m : List S36} {plain : Bool} {was : List Bool} (D : Deeds n oid m plain was) (kind a b : Int) : Deeds n oid (actF m kind a b).1 (plain && (actF m kind a b).2) (markF was (actF m kind a b).1 oid) := by
  have S := act_step D.chk kind a b
  generalize actF m kind a b = r at S ⊢
  obtain ⟨m2, k⟩ := r
  dsimp only at S ⊢
  refine ⟨S.chk, S.len.trans D.len, ?_, fun e => ?_, fun e p hp => ?_⟩
  · unfold markF; split
    · rw [List.length_set]; exact D.wlen
    · exact D.wlen
  · rw [Bool.and_eq_true] at e
    exact S.live e.2 (D.live e.1)
  · rw [Bool.and_eq_true] at e
    unfold markF at hp
    by_cases c : (whereF m2 oid).2 = 0
    · rw [if_pos c] at hp
      obtain ⟨q, hq, hql, ho, hh⟩ := where_at c
      rw [hq, Int.toNat_natCast, List.getElem?_set] at hp
      by_cases f : q = p
      · exact .inl ⟨_, by rw [← f]; exact hh, ho⟩
      · rw [if_neg f] at hp
        exact S.knows e.2 p oid (D.knows e.1 p hp)
    · rw [if_neg c] at hp
      exact S.knows e.2 p oid (D.knows e.1 p hp)
/-! the places at which following comes by -/
theorem path_new (l : List S36) (oid : Int) : ∀ (f : Nat) (p t : Int), (∀ q ∈ (stepsR (nxH l oid) f p t).dropLast, newer oid t (postA l q) = true ∧ ¬ atB (postA l q).f1 oid = true) ∧ (stepsR (nxH l oid) f p t).dropLast.Nodup
  | 0, p, t => ⟨fun q hq => (by cases hq), List.nodup_nil⟩
  | f + 1, p, t => by
    by_cases hgo : (nxH l oid p t).1.2 = true
    rotate_left
    · rw [stepsR_stop hgo]
      exact ⟨fun q hq => (by cases hq), List.nodup_nil⟩
    have c1 : ¬ atB (postA l p).f1 oid = true := fun c => by unfold nxH at hgo; rw [if_pos c] at hgo; cases hgo
    have c2 : newer oid t (postA l p) = true := by
      unfold nxH at hgo
      rw [if_neg c1] at hgo
      unfold newer
      by_cases c2 : (atB (postA l p).f2 oid && decide (t < (lookL (postA l p).f2 oid).f2)) = true
      · exact c2
      · rw [if_neg c2] at hgo; cases hgo
    have ev : nxH l oid p t = (((lookL (postA l p).f2 oid).f1, true), (lookL (postA l p).f2 oid).f2) := by
      have c2' := c2
      unfold newer at c2'
      unfold nxH
      rw [if_neg c1, if_pos c2']
    rw [stepsR_go ev]
    obtain ⟨i1, i2⟩ := path_new l oid f (lookL (postA l p).f2 oid).f1 (lookL (postA l p).f2 oid).f2
    have c3 := c2
    unfold newer at c3
    rw [Bool.and_eq_true, decide_eq_true_iff] at c3
    generalize stepsR (nxH l oid) f (lookL (postA l p).f2 oid).f1 (lookL (postA l p).f2 oid).f2 = R at i1 i2 ⊢
    cases R with
    | nil => exact ⟨fun q hq => (by cases hq), List.nodup_nil⟩
    | cons r R =>
      rw [List.dropLast_cons_of_ne_nil (List.cons_ne_nil _ _)]
      have up : ∀ q ∈ (r :: R).dropLast, newer oid t (postA l q) = true ∧ ¬ atB (postA l q).f1 oid = true := fun q hq => by
        obtain ⟨j1, j2⟩ := i1 q hq
        refine ⟨?_, j2⟩
        unfold newer at j1 ⊢
        rw [Bool.and_eq_true, decide_eq_true_iff] at j1 ⊢
        exact ⟨j1.1, by omega⟩
      refine ⟨fun q hq => ?_, List.nodup_cons.2 ⟨fun hq => ?_, i2⟩⟩
      · rcases List.mem_cons.1 hq with rfl | hq
        · exact ⟨c2, c1⟩
        · exact up q hq
      · have := (i1 p hq).1
        unfold newer at this
        rw [Bool.and_eq_true, decide_eq_true_iff] at this
        omega
theorem found_path {l : List S36} {n : Int} (hv : Vat l n) (L : Live l) (oid : Int) : ∀ (f : Nat) (p t : Int), rho l oid t + 2 ≤ f → (atB (postA l p).f1 oid = true ∨ newer oid t (postA l p) = true) → foundB l oid (stepsR (nxH l oid) f p t) = true
  | 0, _, _, h0, _ => by omega
  | f + 1, p, t, h0, hk => by
    by_cases c1 : atB (postA l p).f1 oid = true
    · rw [stay_nxH c1]
      unfold foundB
      rw [lastI_one]; exact c1
    have c2 := hk.resolve_left c1
    have ev : nxH l oid p t = (((lookL (postA l p).f2 oid).f1, true), (lookL (postA l p).f2 oid).f2) := by
      unfold nxH
      unfold newer at c2
      rw [if_neg c1, if_pos c2]
    have hb : atB (postA l p).f2 oid = true := by unfold newer at c2; rw [Bool.and_eq_true] at c2; exact c2.1
    have hm := post_mem l p _ hb
    have hr := rho_lt (t := t) hm c2
    obtain ⟨a1, a2⟩ := at_found hb
    obtain ⟨j, hj⟩ := hint_of hm a1
    obtain ⟨r, hr1, hr2⟩ := L j _ hj
    rw [stepsR_go ev]
    have ih := found_path hv L oid f (lookL (postA l p).f2 oid).f1 (lookL (postA l p).f2 oid).f2 (by omega) (by
      rw [hr1]
      rcases hr2 with ⟨y, ⟨x, hx, hy⟩, ey⟩ | ⟨y, ⟨x, hx, hy⟩, ey, ty⟩
      · left
        rw [postA_some hx]
        have := at_of_mem (hv.ok x (List.mem_of_getElem? hx)).has.sorted hy
        rw [ey, a2] at this; exact this
      · right
        unfold newer
        rw [postA_some hx]
        obtain ⟨z1, z2⟩ := look_of_mem (hv.ok x (List.mem_of_getElem? hx)).hints.sorted hy
        rw [ey, a2] at z1 z2
        rw [z1, z2, decide_eq_true ty]; rfl)
    have ne : stepsR (nxH l oid) f (lookL (postA l p).f2 oid).f1 (lookL (postA l p).f2 oid).f2 ≠ [] := by
      cases f with
      | zero => omega
      | succ f => exact steps_ne _ _ _ _
    unfold foundB at ih ⊢
    rw [lastI_cons p ne]
    exact ih
theorem last_nodup {l : List Int} (h : l ≠ []) (h1 : l.dropLast.Nodup) (h2 : lastI l ∉ l.dropLast) : l.Nodup := by
  have e : lastI l = l.getLast h := by
    unfold lastI
    rw [List.getD_eq_getElem?_getD, List.getLast_eq_getElem, List.getElem?_eq_getElem (by have := List.length_pos_iff.2 h; omega)]
    rfl
  rw [← List.dropLast_concat_getLast h]
  rw [List.nodup_append]
  refine ⟨h1, List.pairwise_singleton _ _, fun a ha b hb q => ?_⟩
  rw [List.mem_singleton] at hb
  subst q
  rw [hb] at ha
  rw [e] at h2
  exact h2 ha
structure PathOk (m : List S36) (place oid : Int) (n : Nat) (plain wasP : Bool) (l : List Int) (is : Bool) : Prop where
  res : followF m place oid = (l, is, 0)
  pl : 0 ≤ place ∧ place < n
  len : l.length ≤ n + 1
  ne : l ≠ []
  but : l.dropLast.Nodup
  all : plain = true → l.Nodup
  found : plain = true → wasP = true → is = true
theorem follow_ok {n : Nat} {oid place : Int} {m : List S36} {plain : Bool} {was : List Bool} (D : Deeds n oid m plain was) (h : (followF m place oid).2.2 = 0) : ∃ l is, PathOk m place oid n plain (was.getD place.toNat false) l is := by
  unfold followF at h
  by_cases c : givenC m (decide (1 ≤ oid)) [place] = 0
  rotate_left
  · rw [if_neg c] at h; exact absurd h c
  obtain ⟨i, hpi, hil, hx⟩ := given_post c
  have hv := check_vat D.chk
  have hne : followL m oid place ≠ [] := by unfold followL; exact steps_ne _ _ _ _
  obtain ⟨p1, p2⟩ := path_new m oid 1099511627778 place (-1)
  have hr := rho_le m oid (-1)
  have hm16 := ((check_iff m).1 D.chk).most
  have fnd : Live m → KnowsOf m i oid → foundB m oid (followL m oid place) = true := fun L k => by
    refine found_path hv L oid _ place (-1) (by omega) ?_
    rw [hpi]
    rcases k with ⟨y, ⟨x, hx, hy⟩, ey⟩ | ⟨y, ⟨x, hx, hy⟩, ey⟩
    · left
      rw [postA_some hx]
      have := at_of_mem (hv.ok x (List.mem_of_getElem? hx)).has.sorted hy
      rw [ey] at this; exact this
    · right
      unfold newer
      rw [postA_some hx]
      have hok := (hv.ok x (List.mem_of_getElem? hx)).hints
      obtain ⟨z1, z2⟩ := look_of_mem hok.sorted hy
      have := (hok.all y hy).2.1
      rw [ey] at z1 z2
      rw [z1, z2, decide_eq_true (by omega)]; rfl
  refine ⟨followL m oid place, foundB m oid (followL m oid place), ?_, by have := D.len; omega, ?_, hne, p2, fun e => ?_, fun e w => ?_⟩
  · unfold followF; rw [if_pos c]
  · have := follow_len m oid place; rw [D.len] at this; exact this
  · by_cases k : newer oid (-1) (postA m place) = true ∨ atB (postA m place).f1 oid = true
    · have hf : foundB m oid (followL m oid place) = true := found_path hv (D.live e) oid _ place (-1) (by omega) k.symm
      refine last_nodup hne p2 (fun q => ?_)
      exact (p1 _ q).2 hf
    · have : followL m oid place = [place] := by
        unfold followL
        refine stepsR_stop (f := 1099511627777) (fun hgo => k ?_)
        unfold nxH at hgo
        by_cases c1 : atB (postA m place).f1 oid = true
        · exact .inr c1
        · rw [if_neg c1] at hgo
          by_cases c2 : (atB (postA m place).f2 oid && decide (-1 < (lookL (postA m place).f2 oid).f2)) = true
          · exact .inl c2
          · rw [if_neg c2] at hgo; cases hgo
      rw [this]; exact List.pairwise_singleton _ _
  · refine fnd (D.live e) (D.knows e i ?_)
    rw [List.getD_eq_getElem?_getD] at w
    rw [hpi, Int.toNat_natCast] at w
    cases hw : was[i]? with
    | none => rw [hw] at w; cases w
    | some v => rw [hw] at w; rw [show v = true from w]
end Go.Proofs.Ytjnceoohlcchnaa.Print

/-! The law of moves, walked. -/
namespace Go.Proofs.Ytjnceoohlcchnaa.Print
open Go Go.RowKit Go.Deep Go.Proofs.YtjnceoohlcchnaaW.PrintWords Go.Proofs.YtjnceoohlcchnaaW.PrintLast Go.Proofs.YtjnceoohlcchnaaW.PrintMore

theorem short_nil : Short ([] : List S36) := ⟨Nat.zero_le _, fun x hx => by cases hx⟩
theorem short_make (l : List S36) (oid place : Int) : Short (makeF l oid place).1 := by
  by_cases h : (makeF l oid place).2 = 0
  · exact short_ok (make_step h).chk
  · have : (makeF l oid place).1 = [] := by
      unfold makeF at h ⊢
      split <;> rename_i c
      · rw [if_pos c] at h
        split <;> rename_i d
        · rfl
        · rw [if_neg d] at h
          split <;> rename_i e
          · rfl
          · rw [if_neg e] at h; exact absurd rfl h
      · rfl
    rw [this]; exact short_nil
theorem short_move (l : List S36) (oid place : Int) : Short (moveF l oid place).1 := by
  by_cases h : (moveF l oid place).2 = 0
  · exact short_ok (move_step h).chk
  · rw [move_bad h]; exact short_nil
theorem short_tell (l : List S36) (place : Int) (h : S31) : Short (tellG l place h).1 := by
  by_cases c : (tellG l place h).2 = 0
  · obtain ⟨i, x, t⟩ := tell_ok c
    rw [t.res]; exact short_ok t.more
  · have : (tellG l place h).1 = [] := by
      unfold tellG at c ⊢
      split <;> rename_i c1
      · rw [if_pos c1] at c
        split <;> rename_i d
        · rfl
        · rw [if_neg d] at c
          split <;> rename_i e
          · rw [if_pos e] at c; exact absurd rfl c
          · rfl
      · rfl
    rw [this]; exact short_nil
theorem short_forget (l : List S36) (place oid : Int) : Short (forgetF l place oid).1 := by
  by_cases h : (forgetF l place oid).2 = 0
  · exact short_ok (forget_step h).chk
  · have : (forgetF l place oid).1 = [] := by
      unfold forgetF at h ⊢
      split <;> rename_i c
      · rw [if_pos c] at h; exact absurd rfl h
      · rfl
    rw [this]; exact short_nil
set_option maxRecDepth 100000 in
set_option maxHeartbeats 16000000 in
theorem moves_walk (A : Option Addr) (c : Nat) (m : List S36) (oid place : Int) (h : S31) (w : World) (hr : Kd.C k36 w A m.length m) (hc : m.length ≤ c) (hf : FitP m) :
    Calls Try.prog 5 #[.slice A m.length c, .int .i64 oid, .int .i64 place, .agg #[.int .i64 h.f0, .int .i64 h.f1, .int .i64 h.f2]] w fun e w' => e = .returned (.bool true) ∧ Below w.heap.size w w' := by
  have HR := Aside0.mk hr
  have HF := Aside0.mk hf
  clear hr hf
  have hu := Try.underlying31
  go_enter Try.func5, Try.ntmps5
  go_upto_region 1 with fail
  obtain ⟨gb, hgb⟩ : ∃ g, g = w.heap.size := ⟨_, rfl⟩
  obtain ⟨w1, hw1⟩ : ∃ w1, w1 = w.alloc (Obj.cells #[Value.int IntKind.i64 h.f0, Value.int IntKind.i64 h.f1, Value.int IntKind.i64 h.f2] 31) := ⟨_, rfl⟩
  rw [← hw1, ← hgb]
  have HB1 : Aside0 (Below w.heap.size w w1) := ⟨by rw [hw1]; exact below_alloc (Below.refl _ _) _⟩
  have HQ1 : Aside0 (w1.heap[gb]? = some (.cells #[.int .i64 h.f0, .int .i64 h.f1, .int .i64 h.f2] 31 (0, 0))) := ⟨by rw [hw1, hgb]; exact heap_alloc_new _ _⟩
  clear hw1 hgb
  go_wp2_with fail
  refine (awake_any w1).mono ?_
  rintro e w2 ⟨rfl, hB⟩
  have HB2 := Aside0.mk (below_step HB1.out hB)
  have HQ2 := Aside0.mk (blk_below HQ1.out hB)
  clear hB HB1 HQ1
  go_wp2_with fail
  refine (few_any A m.length c m w2 rfl (Kd.C_below HR.out HB2.out) hc HF.out).mono ?_
  rintro e w3 ⟨rfl, hB⟩
  have HB3 := Aside0.mk (below_step HB2.out hB)
  have HQ3 := Aside0.mk (blk_below HQ2.out hB)
  clear hB HB2 HQ2
  cases hfw : fewB m with
  | false =>
    clear hfw
    go_wp2_with fail
    go_returns
    exact ⟨rfl, HB3.out⟩
  | true =>
  have HS := Aside0.mk (few_short hfw)
  clear hfw
  go_wp2_with fail
  refine (Make_any A m.length c m oid place w3 rfl (Kd.C_below HR.out HB3.out) hc HS.out).mono ?_
  rintro e w4 ⟨Aa1, ca1, rfl, hca1, hC, hB⟩
  have HB4 := Aside0.mk (below_step HB3.out hB)
  have HQ4 := Aside0.mk (blk_below HQ3.out hB)
  have HCa1 := Aside0.mk hC
  clear hB hC HB3 HQ3
  go_wp2_with fail
  refine (rmake_any A m.length c m oid place w4 rfl (Kd.C_below HR.out HB4.out) hc HS.out).mono ?_
  rintro e w5 ⟨Ab1, cb1, rfl, hcb1, hC, hB⟩
  have HB5 := Aside0.mk (below_step HB4.out hB)
  have HQ5 := Aside0.mk (blk_below HQ4.out hB)
  replace HCa1 := Aside0.mk (Kd.C_below HCa1.out hB)
  have HCb1 := Aside0.mk hC
  clear hB hC HB4 HQ4
  go_wp2_with fail
  refine (Move_any A m.length c m oid place w5 rfl (Kd.C_below HR.out HB5.out) hc HS.out).mono ?_
  rintro e w6 ⟨Aa2, ca2, rfl, hca2, hC, hB⟩
  have HB6 := Aside0.mk (below_step HB5.out hB)
  have HQ6 := Aside0.mk (blk_below HQ5.out hB)
  replace HCa1 := Aside0.mk (Kd.C_below HCa1.out hB)
  replace HCb1 := Aside0.mk (Kd.C_below HCb1.out hB)
  have HCa2 := Aside0.mk hC
  clear hB hC HB5 HQ5
  go_wp2_with fail
  refine (rmove_any A m.length c m oid place w6 rfl (Kd.C_below HR.out HB6.out) hc HS.out).mono ?_
  rintro e w7 ⟨Ab2, cb2, rfl, hcb2, hC, hB⟩
  have HB7 := Aside0.mk (below_step HB6.out hB)
  have HQ7 := Aside0.mk (blk_below HQ6.out hB)
  replace HCa1 := Aside0.mk (Kd.C_below HCa1.out hB)
  replace HCb1 := Aside0.mk (Kd.C_below HCb1.out hB)
  replace HCa2 := Aside0.mk (Kd.C_below HCa2.out hB)
  have HCb2 := Aside0.mk hC
  clear hB hC HB6 HQ6
  have HS1 := Aside0.mk (short_make m oid place)
  obtain ⟨r1, hr1⟩ : ∃ r, r = makeF m oid place := ⟨_, rfl⟩
  rw [← hr1] at HS1 HCa1 HCb1 hca1 hcb1 ⊢
  clear hr1
  obtain ⟨l1, e1⟩ := r1
  dsimp only at HS1 HCa1 HCb1 hca1 hcb1 ⊢
  have HS2 := Aside0.mk (short_move m oid place)
  obtain ⟨r2, hr2⟩ : ∃ r, r = moveF m oid place := ⟨_, rfl⟩
  rw [← hr2] at HS2 HCa2 HCb2 hca2 hcb2 ⊢
  clear hr2
  obtain ⟨l2, e2⟩ := r2
  dsimp only at HS2 HCa2 HCb2 hca2 hcb2 ⊢
  go_wp2_with fail
  refine (rsame_any Aa1 Ab1 l1.length ca1 l1.length cb1 l1 l1 w7 rfl rfl HCa1.out HCb1.out HS1.out).mono ?_
  rintro e w8 ⟨rfl, hB⟩
  rw [sameBy_refl postE_refl]
  have HB8 := Aside0.mk (below_step HB7.out hB)
  have HQ8 := Aside0.mk (blk_below HQ7.out hB)
  replace HCa2 := Aside0.mk (Kd.C_below HCa2.out hB)
  replace HCb2 := Aside0.mk (Kd.C_below HCb2.out hB)
  clear hB HB7 HQ7
  go_wp2_with fail
  refine (rsame_any Aa2 Ab2 l2.length ca2 l2.length cb2 l2 l2 w8 rfl rfl HCa2.out HCb2.out HS2.out).mono ?_
  rintro e w9 ⟨rfl, hB⟩
  rw [sameBy_refl postE_refl]
  have HB9 := Aside0.mk (below_step HB8.out hB)
  have HQ9 := Aside0.mk (blk_below HQ8.out hB)
  clear hB HB8 HQ8
  clear HCa1 HCb1 HCa2 HCb2 hca1 hcb1 hca2 hcb2 HS1 HS2
  obtain ⟨n0, n1, n2, _, _, _⟩ := blk3 HQ9.out
  go_wp2_with fail
  refine (Tell_any A m.length c m place h w9 rfl (Kd.C_below HR.out HB9.out) hc HS.out).mono ?_
  rintro e w10 ⟨Aa3, ca3, rfl, hca3, hC, hB⟩
  have HB10 := Aside0.mk (below_step HB9.out hB)
  have HQ10 := Aside0.mk (blk_below HQ9.out hB)
  have HCa3 := Aside0.mk hC
  clear hB hC HB9 HQ9 n0 n1 n2
  obtain ⟨n0, n1, n2, _, _, _⟩ := blk3 HQ10.out
  go_wp2_with fail
  refine (rtell_any A m.length c m place h w10 rfl (Kd.C_below HR.out HB10.out) hc HS.out).mono ?_
  rintro e w11 ⟨Ab3, cb3, rfl, hcb3, hC, hB⟩
  have HB11 := Aside0.mk (below_step HB10.out hB)
  have HQ11 := Aside0.mk (blk_below HQ10.out hB)
  replace HCa3 := Aside0.mk (Kd.C_below HCa3.out hB)
  have HCb3 := Aside0.mk hC
  clear hB hC HB10 HQ10 n0 n1 n2
  go_wp2_with fail
  refine (forget_any A m.length c m place oid w11 rfl (Kd.C_below HR.out HB11.out) hc HS.out).mono ?_
  rintro e w12 ⟨Aa4, ca4, rfl, hca4, hC, hB⟩
  have HB12 := Aside0.mk (below_step HB11.out hB)
  replace HCa3 := Aside0.mk (Kd.C_below HCa3.out hB)
  replace HCb3 := Aside0.mk (Kd.C_below HCb3.out hB)
  have HCa4 := Aside0.mk hC
  clear hB hC HB11
  go_wp2_with fail
  refine (rforget_any A m.length c m place oid w12 rfl (Kd.C_below HR.out HB12.out) hc HS.out).mono ?_
  rintro e w13 ⟨Ab4, cb4, rfl, hcb4, hC, hB⟩
  have HB13 := Aside0.mk (below_step HB12.out hB)
  replace HCa3 := Aside0.mk (Kd.C_below HCa3.out hB)
  replace HCb3 := Aside0.mk (Kd.C_below HCb3.out hB)
  replace HCa4 := Aside0.mk (Kd.C_below HCa4.out hB)
  have HCb4 := Aside0.mk hC
  clear hB hC HB12
  have HS3 := Aside0.mk (short_tell m place h)
  obtain ⟨r3, hr3⟩ : ∃ r, r = tellG m place h := ⟨_, rfl⟩
  rw [← hr3] at HS3 HCa3 HCb3 hca3 hcb3 ⊢
  clear hr3
  obtain ⟨l3, e3⟩ := r3
  dsimp only at HS3 HCa3 HCb3 hca3 hcb3 ⊢
  have HS4 := Aside0.mk (short_forget m place oid)
  obtain ⟨r4, hr4⟩ : ∃ r, r = forgetF m place oid := ⟨_, rfl⟩
  rw [← hr4] at HS4 HCa4 HCb4 hca4 hcb4 ⊢
  clear hr4
  obtain ⟨l4, e4⟩ := r4
  dsimp only at HS4 HCa4 HCb4 hca4 hcb4 ⊢
  go_wp2_with fail
  refine (rsame_any Aa3 Ab3 l3.length ca3 l3.length cb3 l3 l3 w13 rfl rfl HCa3.out HCb3.out HS3.out).mono ?_
  rintro e w14 ⟨rfl, hB⟩
  rw [sameBy_refl postE_refl]
  have HB14 := Aside0.mk (below_step HB13.out hB)
  replace HCa4 := Aside0.mk (Kd.C_below HCa4.out hB)
  replace HCb4 := Aside0.mk (Kd.C_below HCb4.out hB)
  clear hB HB13
  go_wp2_with fail
  refine (rsame_any Aa4 Ab4 l4.length ca4 l4.length cb4 l4 l4 w14 rfl rfl HCa4.out HCb4.out HS4.out).mono ?_
  rintro e w15 ⟨rfl, hB⟩
  rw [sameBy_refl postE_refl]
  have HB15 := Aside0.mk (below_step HB14.out hB)
  clear hB HB14
  clear HCa3 HCb3 HCa4 HCb4 hca3 hcb3 hca4 hcb4 HS3 HS4
  go_wp2_with fail
  refine (Look_any A m.length c m place oid w15 rfl (Kd.C_below HR.out HB15.out) hc HS.out).mono ?_
  rintro e w15b ⟨rfl, hB⟩
  simp only [hintV]
  obtain ⟨p, hp⟩ : ∃ r, r = lookF m place oid := ⟨_, rfl⟩
  rw [← hp]
  have Hp := Aside0.mk hp
  clear hp
  obtain ⟨⟨p0, p1, p2⟩, pi, pe⟩ := p
  dsimp only
  obtain ⟨w16, hw⟩ : ∃ W, W = w15b.alloc (Obj.cells #[Value.int IntKind.i64 p0, Value.int IntKind.i64 p1, Value.int IntKind.i64 p2] 31) := ⟨_, rfl⟩
  obtain ⟨g16, hg⟩ : ∃ g, g = w15b.heap.size := ⟨_, rfl⟩
  have hBB : Below w15.heap.size w15 w16 := by rw [hw]; exact below_alloc hB _
  have HB16 := Aside0.mk (below_step HB15.out hBB)
  have HN16 : Aside0 (w16.heap[g16]? = some (.cells #[.int .i64 p0, .int .i64 p1, .int .i64 p2] 31 (0, 0))) := ⟨by rw [hw, hg]; exact heap_alloc_new _ _⟩
  go_upto_region 17 with fail
  rw [← hw, ← hg]
  clear hw hg hB hBB HB15
  go_wp2_with fail
  refine (rlook_any A m.length c m place oid w16 rfl (Kd.C_below HR.out HB16.out) hc HS.out).mono ?_
  rintro e w16b ⟨rfl, hB⟩
  simp only [hintV]
  rw [← Hp.out]
  dsimp only
  obtain ⟨w17, hw⟩ : ∃ W, W = w16b.alloc (Obj.cells #[Value.int IntKind.i64 p0, Value.int IntKind.i64 p1, Value.int IntKind.i64 p2] 31) := ⟨_, rfl⟩
  obtain ⟨g17, hg⟩ : ∃ g, g = w16b.heap.size := ⟨_, rfl⟩
  have hBB : Below w16.heap.size w16 w17 := by rw [hw]; exact below_alloc hB _
  have HB17 := Aside0.mk (below_step HB16.out hBB)
  have HN17 : Aside0 (w17.heap[g17]? = some (.cells #[.int .i64 p0, .int .i64 p1, .int .i64 p2] 31 (0, 0))) := ⟨by rw [hw, hg]; exact heap_alloc_new _ _⟩
  replace HN16 := Aside0.mk (blk_below HN16.out hBB)
  go_upto_region 18 with fail
  rw [← hw, ← hg]
  clear hw hg hB hBB HB16
  go_wp2_with fail
  refine (Where_any A m.length c m oid w17 rfl (Kd.C_below HR.out HB17.out) hc HS.out).mono ?_
  rintro e w17b ⟨rfl, hB⟩
  simp only [hintV]
  obtain ⟨q, hq⟩ : ∃ r, r = whereF m oid := ⟨_, rfl⟩
  rw [← hq]
  have Hq := Aside0.mk hq
  clear hq
  obtain ⟨⟨q0, q1, q2⟩, qe⟩ := q
  dsimp only
  obtain ⟨w18, hw⟩ : ∃ W, W = w17b.alloc (Obj.cells #[Value.int IntKind.i64 q0, Value.int IntKind.i64 q1, Value.int IntKind.i64 q2] 31) := ⟨_, rfl⟩
  obtain ⟨g18, hg⟩ : ∃ g, g = w17b.heap.size := ⟨_, rfl⟩
  have hBB : Below w17.heap.size w17 w18 := by rw [hw]; exact below_alloc hB _
  have HB18 := Aside0.mk (below_step HB17.out hBB)
  have HN18 : Aside0 (w18.heap[g18]? = some (.cells #[.int .i64 q0, .int .i64 q1, .int .i64 q2] 31 (0, 0))) := ⟨by rw [hw, hg]; exact heap_alloc_new _ _⟩
  replace HN16 := Aside0.mk (blk_below HN16.out hBB)
  replace HN17 := Aside0.mk (blk_below HN17.out hBB)
  go_upto_region 19 with fail
  rw [← hw, ← hg]
  clear hw hg hB hBB HB17
  go_wp2_with fail
  refine (rwhere_any A m.length c m oid w18 rfl (Kd.C_below HR.out HB18.out) hc HS.out).mono ?_
  rintro e w18b ⟨rfl, hB⟩
  simp only [hintV]
  rw [← Hq.out]
  dsimp only
  obtain ⟨w19, hw⟩ : ∃ W, W = w18b.alloc (Obj.cells #[Value.int IntKind.i64 q0, Value.int IntKind.i64 q1, Value.int IntKind.i64 q2] 31) := ⟨_, rfl⟩
  obtain ⟨g19, hg⟩ : ∃ g, g = w18b.heap.size := ⟨_, rfl⟩
  have hBB : Below w18.heap.size w18 w19 := by rw [hw]; exact below_alloc hB _
  have HB19 := Aside0.mk (below_step HB18.out hBB)
  have HN19 : Aside0 (w19.heap[g19]? = some (.cells #[.int .i64 q0, .int .i64 q1, .int .i64 q2] 31 (0, 0))) := ⟨by rw [hw, hg]; exact heap_alloc_new _ _⟩
  replace HN16 := Aside0.mk (blk_below HN16.out hBB)
  replace HN17 := Aside0.mk (blk_below HN17.out hBB)
  replace HN18 := Aside0.mk (blk_below HN18.out hBB)
  go_upto_region 20 with fail
  rw [← hw, ← hg]
  clear hw hg hB hBB HB18
  obtain ⟨a00, a01, a02, _, _, _⟩ := blk3 HN16.out
  obtain ⟨a10, a11, a12, _, _, _⟩ := blk3 HN17.out
  obtain ⟨a20, a21, a22, _, _, _⟩ := blk3 HN18.out
  obtain ⟨a30, a31, a32, _, _, _⟩ := blk3 HN19.out
  cases pi
  all_goals
    go_wp2_with fail
    go_returns
    exact ⟨rfl, HB19.out⟩
end Go.Proofs.Ytjnceoohlcchnaa.Print

/-! A hint, a row of hints, or of triples, handed in. -/
namespace Go.Proofs.Ytjnceoohlcchnaa.Print
open Go Go.ChangeShapes Go.WideShapes Go.ChangeAt Go.RowKit Go.Deep Go.Proofs.YtjnceoohlcchnaaW.PrintWords Go.Proofs.YtjnceoohlcchnaaW.PrintLast Go.Proofs.YtjnceoohlcchnaaW.PrintMore
section
variable {H : Type} {enc : TypeId × Value → H} {W : World} {held : Bool}
set_option maxRecDepth 100000 in
theorem lift_hint {v : Value} {base : Nat} {d : DataW H} {ps : List MemPlace} (ho : Value.okWide Try.prog W .any base 31 v) (h : DataW.Trod enc Try.prog W 0 (fun _ => true) held 31 v d ps) : ∃ x : S31, v = .agg #[.int .i64 x.f0, .int .i64 x.f1, .int .i64 x.f2] := by
  obtain ⟨cs, rfl, hs⟩ := okWide_struct Try.underlying31 ho
  obtain ⟨fuel, hf⟩ := h
  rw [show Try.prog.cellsOf 31 = 3 from by kernel_rfl] at hs
  obtain ⟨cs⟩ := cs
  match cs, hs with
  | [v0, v1, v2], _ =>
    obtain ⟨y0, y1, y2, n, _, _, g0, g1, g2⟩ := trod_struct3 Try.underlying31 (show DataW.trod enc Try.prog W 0 (fun _ => true) held fuel 31 [v0, v1, v2] = some (d, ps) from by simpa [Value.cells] using hf)
    rw [show Try.prog.cellsOf 3 = 1 from by kernel_rfl] at g0 g1 g2
    simp at g0 g1 g2
    obtain ⟨z0, e0, _, _⟩ := DataW.trod_int Try.underlying3 g0
    obtain ⟨z1, e1, _, _⟩ := DataW.trod_int Try.underlying3 g1
    obtain ⟨z2, e2, _, _⟩ := DataW.trod_int Try.underlying3 g2
    simp at e0 e1 e2
    subst e0 e1 e2
    exact ⟨⟨z0, z1, z2⟩, rfl⟩
theorem lift_hintsT {a : Option Addr} {len cap : Nat} {d : DataW H} {ps : List MemPlace} (h : DataW.Trod enc Try.prog W 0 (fun _ => true) held 34 (.slice a len cap) d ps) (hz : ∀ n ∈ d.weights Try.prog 34, n ≤ reachBytes) :
    ∃ l : List S31, l.length = len ∧ len ≤ cap ∧ Kd.C k31 W a len l ∧ len ≤ 140737488355328 := by
  obtain ⟨fuel, hf⟩ := h
  exact lift_hints (fuel := fuel) (d := d) (ps := ps) (by simpa [Value.cells] using hf) hz
set_option maxRecDepth 100000 in
theorem lift_trips {a : Option Addr} {len cap : Nat} {d : DataW H} {ps : List MemPlace} (h : DataW.Trod enc Try.prog W 0 (fun _ => true) held 55 (.slice a len cap) d ps) :
    ∃ l : List S31, l.length = len ∧ len ≤ cap ∧ Kd.C k31 W a len l := by
  obtain ⟨fuel, hf⟩ := h
  rcases open_slice Try.underlying55 hf with ⟨hcs, _⟩ | ⟨x, l', c', m, n, D, Pl, hcs, _, hl, hm, hmm, hx, hcell⟩
  · simp [Value.cells] at hcs
    obtain ⟨rfl, rfl, rfl⟩ := hcs
    exact ⟨[], rfl, Nat.le_refl _, Kd.C_nil _ _⟩
  · simp [Value.cells] at hcs
    obtain ⟨rfl, rfl, rfl⟩ := hcs
    simp only [if_true] at hmm
    subst hmm
    rw [show Try.prog.cellsOf 59 = 3 from by kernel_rfl] at hcell
    have each : ∀ i, i < len → ∃ y : S31, W.cell? (x.add (i * 3)) = some (.int .i64 y.f0) ∧ W.cell? (x.add (i * 3 + 1)) = some (.int .i64 y.f1) ∧ W.cell? (x.add (i * 3 + 2)) = some (.int .i64 y.f2) := by
      intro i hi
      obtain ⟨cs', h1, h2⟩ := hcell i (by omega)
      obtain ⟨_, hlen, hc⟩ := World.cells?_some h1
      cases n with
      | zero => simp [DataW.trod] at h2
      | succ n =>
        simp only [DataW.trod, Try.underlying59] at h2
        split at h2
        · obtain ⟨xs, hmm, hx⟩ := Option.map_eq_some_iff.1 h2
          obtain ⟨b0, _, f0⟩ := Lib.mapM_at hmm 0 0 rfl
          obtain ⟨b1, _, f1⟩ := Lib.mapM_at hmm 1 1 rfl
          obtain ⟨b2, _, f2⟩ := Lib.mapM_at hmm 2 2 rfl
          rw [show Try.prog.cellsOf 3 = 1 from by kernel_rfl] at f0 f1 f2
          match cs', hlen with
          | [v0, v1, v2], _ =>
            obtain ⟨z0, e0, _⟩ := DataW.trod_int Try.underlying3 f0
            obtain ⟨z1, e1, _⟩ := DataW.trod_int Try.underlying3 f1
            obtain ⟨z2, e2, _⟩ := DataW.trod_int Try.underlying3 f2
            have g0 := hc 0 (by simp)
            have g1 := hc 1 (by simp)
            have g2 := hc 2 (by simp)
            rw [Go.Deep.add_add] at g0 g1 g2
            simp at e0 e1 e2 g0 g1 g2
            exact ⟨⟨z0, z1, z2⟩, by rw [← e0]; exact g0, by rw [← e1]; exact g1, by rw [← e2]; exact g2⟩
        · cases h2
    haveI : Inhabited S31 := ⟨⟨0, 0, 0⟩⟩
    obtain ⟨y, hy⟩ := choose_lt each
    refine ⟨(List.range len).map y, by simp, hl, ⟨by simp, by unfold maxLen at hm; omega, fun _ => ⟨x, rfl, fun j p hj => ?_⟩⟩⟩
    rw [List.getElem?_map] at hj
    obtain ⟨i, hi, rfl⟩ := Option.map_eq_some_iff.1 hj
    obtain ⟨hjl, hji⟩ := List.getElem?_eq_some_iff.1 hi
    simp at hjl hji
    subst hji
    obtain ⟨e0, e1, e2⟩ := hy j hjl
    refine ⟨_, rfl, k31_mk W (y j), fun i u hu => ?_⟩
    match i, hu with
    | 0, hu => cases hu; exact e0
    | 1, hu => cases hu; exact e1
    | 2, hu => cases hu; exact e2
end
end Go.Proofs.Ytjnceoohlcchnaa.Print

namespace Go.Proofs.Ytjnceoohlcchnaa.findMoves
open Go Go.ChangeShapes Go.WideShapes Go.ChangeAt Go.RowKit Go.Proofs.Ytjnceoohlcchnaa.Print
open Go.Proofs.YtjnceoohlcchnaaW.PrintWords
theorem own : ownKnob Try.prog.godebug = none := by kernel_rfl
theorem laidOut : laidOutB Try.prog = true := by kernel_rfl

theorem small {H : Type} {ts : List TypeId} {ds : List (DataW H)} (hsz : (DataW.weightsEach Try.prog ts ds).all (· ≤ reachBytes) = true) {j : Nat} {t : TypeId} {d : DataW H} (ht : ts[j]? = some t) (hd : ds[j]? = some d) : ∀ n ∈ d.weights Try.prog t, n ≤ reachBytes := by
  intro n hn
  have := List.all_eq_true.1 hsz _ (DataW.weights_mem_each ht hd n hn)
  simpa using this


set_option maxRecDepth 100000 in
theorem lifted (os : Os) (started : os.Started) (H : Type) (enc : TypeId × Value → H) :
    ReturnsInHanded {} Try.checked os 5 .any (Rows.findMovesSpec.pre6 enc Try.prog Try.f5 Rows.findMovesRow.domain false) (Rows.findMovesSpec.post enc Try.prog Try.f5 false true false false) := by
  refine returnsInHanded_of_change_sized (C := Try.checked) own started (by kernel_rfl) Try.func5
    (ChangeSpec.witness6 (enc := enc) (C := Try.checked) false ⟨#[], #[.slice none 0 0, .int .i64 0, .int .i64 0, .agg #[.int .i64 0, .int .i64 0, .int .i64 0]], []⟩ 8 (by kernel_rfl) (by kernel_rfl) (by kernel_rfl) (by kernel_rfl)) ?_
  intro W base args ds gs before hval0 hW hcnd hsz0 _
  have hsz : (DataW.weightsEach Try.prog (Try.f5.params.toList ++ Rows.findMovesSpec.plain.varTypes Try.prog) (ds ++ gs)).all (· ≤ reachBytes) = true := hsz0
  have hval : ∀ (j : Nat) t v, Try.f5.params[j]? = some t → args[j]? = some v → Value.okWide Try.prog W .any base t v := hval0
  have hW' := hW
  obtain ⟨p, q, hA0, hV, rfl, hfz, hnd⟩ := hW
  have hA : DataW.TrodAll enc Try.prog W 0 (fun _ => true) true Try.f5.params.toList args.toList ds p := hA0
  rw [Try.params5] at hA hval hsz
  obtain ⟨v0, vs0, d0, ds0, p0, q0, hargs, rfl, rfl, h0, r0⟩ := trodAll_cons hA
  obtain ⟨v1, vs1, d1, ds1, p1, q1, rfl, rfl, rfl, h1, r1⟩ := trodAll_cons r0
  obtain ⟨v2, vs2, d2, ds2, p2, q2, rfl, rfl, rfl, h2, r2⟩ := trodAll_cons r1
  obtain ⟨v3, vs3, d3, ds3, p3, q3, rfl, rfl, rfl, h3, r3⟩ := trodAll_cons r2
  obtain ⟨rfl, rfl, rfl⟩ := trodAll_nil r3
  obtain rfl : args = #[v0, v1, v2, v3] := by cases args; simp_all
  obtain ⟨rfl, rfl⟩ := trodVars_none hV
  obtain ⟨a0, len0, cap0, rfl⟩ := okWide_slice Try.underlying22 (hval 0 22 v0 rfl rfl)
  obtain ⟨a1, rfl, rfl, rfl, w1⟩ := open_int Try.underlying3 (hval 1 3 v1 rfl rfl) h1
  obtain ⟨a2, rfl, rfl, rfl, w2⟩ := open_int Try.underlying3 (hval 2 3 v2 rfl rfl) h2
  obtain ⟨x3, rfl⟩ := lift_hint (hval 3 31 v3 rfl rfl) h3
  have k0 := h0
  have lt0 : ∀ x ∈ p0, x.block < W.heap.size := by obtain ⟨m, hm⟩ := k0; exact DataW.trod_lt m _ _ _ hm
  have k3 := h3
  have lt3 : ∀ x ∈ p3, x.block < W.heap.size := by obtain ⟨m, hm⟩ := k3; exact DataW.trod_lt m _ _ _ hm
  obtain ⟨l0, e0, hc0, hr0, hz0, hw0⟩ := lift_posts h0 (small hsz (j := 0) rfl rfl)
  subst e0
  clear hA0 hval0 hsz0 hsz
  refine (moves_walk a0 cap0 l0 a1 a2 x3 W hr0 hc0 hw0 ).mono fun e W' ⟨he, bel⟩ => ?_
  subst he
  exact ⟨_, rfl, _, _, _, [], _, [], hW', trodAll_mk1 (shut_bool Try.underlying4 _), (trodAll_cons_mk (Below.trod laidOut (by kernel_rfl) (of_decide_eq_true (by kernel_rfl)) k0 bel lt0) (trodAll_cons_mk (shut_int Try.underlying3 w1) (trodAll_cons_mk (shut_int Try.underlying3 w2) (trodAll_cons_mk (Below.trod laidOut (by kernel_rfl) (of_decide_eq_true (by kernel_rfl)) k3 bel lt3) trodAll_mk0)))), rfl, bel.frame _, fun h => by cases h⟩
theorem over : Rows.findMovesRow.holds Try.pinned (OpenSpec.ofChange Rows.findMovesSpec) :=
  OpenClaim.holds_of_wide 5 Try.f5 rfl rfl rfl rfl rfl rfl rfl ⟨rfl, rfl, rfl, rfl, rfl⟩ rfl rfl rfl rfl rfl (by kernel_rfl) Try.func5 (by kernel_rfl)
    (of_decide_eq_true (by kernel_rfl)) (by unfold Func.isWrapper; first | (rw [if_pos (by decide +kernel)]; kernel_rfl) | (rw [if_neg (by decide +kernel)]; exact ⟨rfl, rfl⟩))
    (fun os started H enc _ => lifted os started H enc)
theorem proved : Rows.FindMovesSaid := over
#print axioms proved
end Go.Proofs.Ytjnceoohlcchnaa.findMoves
namespace Go.Proofs.Ytjnceoohlcchnaa
/-- The row, under a short name, for the claim. -/
theorem findMoves_holds : Rows.FindMovesSaid := findMoves.proved
end Go.Proofs.Ytjnceoohlcchnaa
