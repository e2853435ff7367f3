/- DiskFree: for every disk's bytes, number, bytes and list of records the statement answers true, and all read afterwards as before; without condition. -/
import Derived.Test.YtcdpkdehogcjnaaPrint0
import Derived.Deep.SlicePairs
import Derived.SizedLaws
import Derived.WalkKit
import Derived.ProofKit
import Derived.OpenShut
import Derived.ChangeOld
import Derived.Below
import Derived.Test.YtcdpkdehogcjnaaRD
import Derived.Test.YtcdpkdehogcjnaaRB
import Derived.Test.YtcdpkdehogcjnaaR3
import Derived.Test.YtcdpkdehogcjnaaR4
import Derived.Test.YtcdpkdehogcjnaaRC
import Derived.Test.YtcdpkdehogcjnaaR5
import Derived.Test.YtcdpkdehogcjnaaRows
import Derived.ShutString
set_option linter.unusedVariables false
set_option linter.unusedSimpArgs false
/-! A parameter of records: what the row says of it, as a list. -/
namespace Go.Proofs.Ytcdpkdehogcjnaa.Print
open Go Go.ChangeShapes Go.WideShapes Go.ChangeAt Go.RowKit Go.Deep Go.Proofs.YtcdpkdehogcjnaaW.PrintWords Go.Proofs.YtcdpkdehogcjnaaW.PrintLast Go.Proofs.YtcdpkdehogcjnaaW.PrintMore

/-- what is asked of a record -/
def RecFits (x : S62) : Prop := (Lit.int .i64 x.f0).wf = true ∧ x.f1.length ≤ 140737488351232 ∧ ∀ b ∈ x.f1, (Lit.int .u8 b).wf = true

theorem weights_all {H : Type} {P : Program} {e : TypeId} : ∀ {l : List (DataW H)} {d : DataW H}, d ∈ l → ∀ n ∈ d.weights P e, n ∈ DataW.weightsAll P e l
  | [], _, h, _, _ => by cases h
  | a :: l, d, h, n, hn => by
    rw [DataW.weightsAll, List.mem_append]
    rcases List.mem_cons.1 h with rfl | h
    · exact .inl hn
    · exact .inr (weights_all h n hn)

section
variable {H : Type} {enc : TypeId × Value → H} {W : World} {held : Bool}

set_option maxRecDepth 100000 in
theorem lift_bytes {fuel : Nat} {v : Value} {d : DataW H} {ps : List MemPlace} (h : DataW.trod enc Try.prog W 0 (fun _ => true) held fuel 22 [v] = some (d, ps)) (hz : ∀ n ∈ d.weights Try.prog 22, n ≤ reachBytes) :
    ∃ (A : Option Addr) (c : Nat) (xs : List Int), v = .slice A xs.length c ∧ xs.length ≤ c ∧ Kd.C (Kd.int .u8) W A xs.length xs ∧ xs.length ≤ 140737488351232 ∧ ∀ b ∈ xs, (Lit.int .u8 b).wf = true := by
  rcases open_ints Try.underlying22 Try.underlying5 (by kernel_rfl) h with ⟨hcs, _⟩ | ⟨a, len, cap, zs, hcs, _, hl, hm, hzl, hx, hcell, hwf⟩
  · cases hcs
    exact ⟨none, 0, [], rfl, Nat.le_refl _, Kd.C_nil _ _, by simp, by simp⟩
  · cases hcs
    simp only [if_true] at hzl
    obtain ⟨hd, _⟩ := Prod.mk.inj hx
    subst hd
    have hlen : (zs.take len).length = len := by simp; omega
    have hw := hz ((lits (H := H) .u8 (zs.take len)).length + (lits (H := H) .u8 (zs.drop len)).length |>.mul (Try.prog.bytesOf 5)) (by
      rw [DataW.weights, Try.underlying22]
      exact List.mem_cons_self ..)
    rw [show Try.prog.bytesOf 5 = 1 from by kernel_rfl] at hw
    have hw2 : zs.length ≤ reachBytes := by
      simp [lits] at hw
      omega
    refine ⟨some a, cap, zs.take len, by rw [hlen], by omega, ?_, by rw [hlen]; unfold reachBytes at hw2; omega, fun b hb => hwf b (List.mem_of_mem_take hb)⟩
    rw [hlen]
    refine ⟨hlen, by unfold maxLen at hm; omega, fun _ => ⟨a, rfl, fun j p hj => ⟨[.int .u8 p], rfl, rfl, fun i u hu => ?_⟩⟩⟩
    cases i with
    | succ i => simp at hu
    | zero =>
      simp at hu
      subst hu
      show W.cell? (a.add (j * 1 + 0)) = _
      rw [Nat.mul_one, Nat.add_zero]
      have h1 : zs[j]? = some p := by
        rw [List.getElem?_take] at hj
        split at hj
        · exact hj
        · cases hj
      have h2 := hcell j (List.getElem?_eq_some_iff.1 h1).1
      rw [List.getD_eq_getElem?_getD, h1] at h2
      exact h2

set_option maxRecDepth 100000 in
theorem lift_recs {a : Option Addr} {len cap : Nat} {d : DataW H} {ps : List MemPlace} (h : DataW.Trod enc Try.prog W 0 (fun _ => true) held 23 (.slice a len cap) d ps) (hz : ∀ n ∈ d.weights Try.prog 23, n ≤ reachBytes) :
    ∃ l : List S62, l.length = len ∧ len ≤ cap ∧ Kd.C k62 W a len l ∧ len * 32 ≤ 140737488351232 ∧ ∀ x ∈ l, RecFits x := by
  obtain ⟨fuel, hf⟩ := h
  rcases open_slice_pairs Try.underlying23 Try.underlying62 (by kernel_rfl) rfl rfl (by kernel_rfl) (by kernel_rfl) hf with ⟨hcs, _⟩ | ⟨x, l', c', m, n, V0, V1, D0, D1, P0, P1, hcs, _, hl, hm, hmm, hx, hcell⟩
  · simp [Value.cells] at hcs
    obtain ⟨rfl, rfl, rfl⟩ := hcs
    exact ⟨[], rfl, Nat.le_refl _, Kd.C_nil _ _, by simp, by simp⟩
  · simp [Value.cells] at hcs
    obtain ⟨rfl, rfl, rfl⟩ := hcs
    simp only [if_true] at hmm
    subst hmm
    obtain ⟨hd, _⟩ := Prod.mk.inj hx
    subst hd
    rw [DataW.weights, Try.underlying23] at hz
    have hsz := hz _ (List.mem_cons_self ..)
    rw [show Try.prog.bytesOf 62 = 32 from by kernel_rfl] at hsz
    simp at hsz
    have each : ∀ i, i < len → ∃ y : S62 × Option Addr × Nat, V0 i = .int .i64 y.1.f0 ∧ V1 i = .slice y.2.1 y.1.f1.length y.2.2 ∧ y.1.f1.length ≤ y.2.2 ∧ Kd.C (Kd.int .u8) W y.2.1 y.1.f1.length y.1.f1 ∧ RecFits y.1 := by
      intro i hi
      obtain ⟨_, _, g0, g1⟩ := hcell i (by omega)
      obtain ⟨z, hz0, hz1, hzw⟩ := DataW.trod_int Try.underlying3 g0
      have hw1 : ∀ n ∈ (D1 i).weights Try.prog 22, n ≤ reachBytes := by
        intro n hn
        refine hz n (List.mem_cons_of_mem _ (List.mem_append_left _ (weights_all (d := .agg [D0 i, D1 i]) (List.mem_map.2 ⟨i, List.mem_range.2 hi, rfl⟩) n ?_)))
        rw [DataW.weights, Try.underlying62]
        show n ∈ DataW.weightsEach Try.prog [3, 22] [D0 i, D1 i]
        simp [DataW.weightsEach, hn]
      obtain ⟨A1, c1, xs, hv, hc1, hC, hsz1, hwf⟩ := lift_bytes g1 hw1
      refine ⟨(⟨z, xs⟩, A1, c1), by simpa using hz0, hv, hc1, hC, hzw, hsz1, hwf⟩
    haveI : Inhabited (S62 × Option Addr × Nat) := ⟨(⟨0, []⟩, none, 0)⟩
    obtain ⟨y, hy⟩ := choose_lt each
    refine ⟨(List.range len).map fun i => (y i).1, by simp, hl, ⟨by simp, by unfold maxLen at hm; omega, fun _ => ⟨x, rfl, fun j p hj => ?_⟩⟩, by unfold reachBytes at hsz; omega, fun q hq => ?_⟩
    · rw [List.getElem?_map] at hj
      obtain ⟨i, hi, rfl⟩ := Option.map_eq_some_iff.1 hj
      obtain ⟨hjl, hji⟩ := List.getElem?_eq_some_iff.1 hi
      simp at hjl hji
      subst hji
      obtain ⟨e0, e1, e2, e3, e4⟩ := hy j hjl
      obtain ⟨q0, q1, _, _⟩ := hcell j (by omega)
      refine ⟨_, rfl, k62_mk W (y j).1 e2 e3, fun i u hu => ?_⟩
      match i, hu with
      | 0, hu =>
        simp at hu
        subst hu
        rw [e0] at q0
        exact q0
      | 1, hu =>
        simp at hu
        subst hu
        rw [e1] at q1
        exact q1
    · obtain ⟨i, hi, rfl⟩ := List.mem_map.1 hq
      exact (hy i (List.mem_range.1 hi)).2.2.2.2
end
end Go.Proofs.Ytcdpkdehogcjnaa.Print

/-! plain facts that several laws of the disk want -/
namespace Go.Proofs.Ytcdpkdehogcjnaa.Print
open Go Go.RowKit Go.Proofs.YtcdpkdehogcjnaaW.PrintWords Go.Proofs.YtcdpkdehogcjnaaW.PrintLast Go.Proofs.YtcdpkdehogcjnaaW.PrintMore

def totN : List S62 → Nat
  | [] => 0
  | r :: l => r.f1.length + totN l
theorem tot_step (l : List S62) (i : Nat) (h : i < l.length) : totN (l.drop i) = l[i].f1.length + totN (l.drop (i + 1)) := by
  rw [List.drop_eq_getElem_cons h, totN]
theorem recs_len : ∀ l : List S62, (recsB l).length = 10 * l.length + totN l
  | [] => rfl
  | r :: l => by
    rw [recsB_cons, List.length_append, recB_len, recs_len l, totN, List.length_cons]
    omega
theorem tot_le {l : List S62} {B : Nat} (h : ∀ x ∈ l, x.f1.length ≤ B) : totN l ≤ l.length * B := by
  induction l with
  | nil => simp [totN]
  | cons r l ih =>
    have h1 := h r (List.mem_cons_self ..)
    have h2 := ih (fun x hx => h x (List.mem_cons_of_mem _ hx))
    rw [totN, List.length_cons, Nat.add_mul]
    omega
theorem few_far (xs : List Int) (l : List S62) (hl : l.length ≤ 4398046511104) (h3 : 300 < l.length) : ∀ (m i k : Nat) (acc : Int), i + m = l.length → m < k → beryllaw20_few.l0 k xs l acc (i : Int) = some false := by
  intro m
  induction m with
  | zero =>
    intro i k acc hi hk
    obtain ⟨k, rfl⟩ : ∃ j, k = j + 1 := ⟨k - 1, by omega⟩
    rw [beryllaw20_few.l0, if_neg (by omega)]
    split
    · rw [if_neg (by omega)]
    · rfl
  | succ m ih =>
    intro i k acc hi hk
    obtain ⟨k, rfl⟩ : ∃ j, k = j + 1 := ⟨k - 1, by omega⟩
    have e2 : wrap64 ((i : Int) + 1) = ((i + 1 : Nat) : Int) := by unfold wrap64; omega
    rw [beryllaw20_few.l0, if_pos (by omega), if_pos (by omega), e2]
    exact ih (i + 1) k _ (by omega) (by omega)
theorem few_near (xs : List Int) (l : List S62) (hl : l.length ≤ 300) (hB : ∀ x ∈ l, x.f1.length ≤ 140737488351232) : ∀ (m i k acc : Nat), i + m = l.length → m < k → acc + totN (l.drop i) ≤ 42221246505369600 →
    beryllaw20_few.l0 k xs l (acc : Int) (i : Int) = some (decide (xs.length ≤ 17000) && decide (acc + totN (l.drop i) ≤ 20000)) := by
  intro m
  induction m with
  | zero =>
    intro i k acc hi hk hs
    obtain ⟨k, rfl⟩ : ∃ j, k = j + 1 := ⟨k - 1, by omega⟩
    rw [beryllaw20_few.l0, if_neg (by omega), List.drop_of_length_le (by omega), totN]
    by_cases h1 : xs.length ≤ 17000
    · rw [if_pos (by omega), if_pos (by omega)]
      simp [h1]
      omega
    · rw [if_neg (by omega)]
      simp [h1]
  | succ m ih =>
    intro i k acc hi hk hs
    obtain ⟨k, rfl⟩ : ∃ j, k = j + 1 := ⟨k - 1, by omega⟩
    have hlt : i < l.length := by omega
    have e2 : wrap64 ((i : Int) + 1) = ((i + 1 : Nat) : Int) := by unfold wrap64; omega
    rw [tot_step l i hlt] at hs ⊢
    have e3 : wrap64 ((acc : Int) + (l[i].f1.length : Int)) = ((acc + l[i].f1.length : Nat) : Int) := by unfold wrap64; omega
    rw [beryllaw20_few.l0, if_pos (by omega), if_pos (by omega), e2, rdP l i hlt, e3, ih (i + 1) k (acc + l[i].f1.length) (by omega) (by omega) (by omega)]
    rw [Nat.add_assoc]
theorem few_f (xs : List Int) (l : List S62) (hl : l.length * 32 ≤ 140737488351232) (hB : ∀ x ∈ l, RecFits x) :
    ∃ b : Bool, (∀ k, l.length < k → beryllaw20_few.f k xs l = some b) ∧ (b = true → xs.length ≤ 17000 ∧ l.length ≤ 300 ∧ totN l ≤ 20000) := by
  by_cases h3 : l.length ≤ 300
  · have ht := tot_le (fun x hx => (hB x hx).2.1)
    have ht2 : totN l ≤ 42221246505369600 := Nat.le_trans ht (by omega)
    refine ⟨decide (xs.length ≤ 17000) && decide (totN l ≤ 20000), fun k hk => ?_, fun h => ?_⟩
    · have := few_near xs l h3 (fun x hx => (hB x hx).2.1) l.length 0 k 0 (by omega) hk (by simpa using ht2)
      simpa [beryllaw20_few.f] using this
    · simp at h
      exact ⟨h.1, h3, h.2⟩
  · refine ⟨false, fun k hk => ?_, fun h => by cases h⟩
    exact few_far xs l (by omega) (by omega) l.length 0 k 0 (by omega) hk
theorem asked_k (l : List S62) (hl : l.length ≤ 9223372036854775807) (k : Nat) (hk : l.length < k) : disk_asked.f k l = some (askedF l) :=
  mono_to (f := fun k => disk_asked.f k l) (fun k => disk_asked.mono l k) (asked_f l hl) k hk
theorem bytes_k (l : List S62) (hl : l.length ≤ 9223372036854775807) (hb : (recsB l).length ≤ 70368744177664) (k : Nat) (hk : l.length + 10 ≤ k) : disk_Bytes.f k l = some (if askedF l = 0 then (((recsB l).length : Int), 0) else (0, askedF l)) := by
  have h2 : disk_bytesOf.f k l = some (recsB l) := mono_to (f := fun k => disk_bytesOf.f k l) (fun k => disk_bytesOf.mono l k) (bytesOf_f l hl hb) k hk
  unfold disk_Bytes.f
  rw [asked_k l hl k (by omega), Option.bind_some, h2, Option.bind_some]
  split <;> rfl
theorem has_l0 (xs : List Int) (hl : xs.length ≤ 4398046511104) (n : Int) : ∀ (m i k : Nat), i + m = xs.length → m < k → beryllaw20_has.l0 k xs n (i : Int) = some (decide (n ∈ xs.drop i)) := by
  intro m
  induction m with
  | zero =>
    intro i k hi hk
    obtain ⟨k, rfl⟩ : ∃ j, k = j + 1 := ⟨k - 1, by omega⟩
    rw [beryllaw20_has.l0, if_neg (by omega), List.drop_of_length_le (by omega)]
    simp
  | succ m ih =>
    intro i k hi hk
    obtain ⟨k, rfl⟩ : ∃ j, k = j + 1 := ⟨k - 1, by omega⟩
    have hlt : i < xs.length := by omega
    have e2 : wrap64 ((i : Int) + 1) = ((i + 1 : Nat) : Int) := by unfold wrap64; omega
    have er : rd xs (i : Int) = xs[i] := by simp [rd, List.getD_eq_getElem?_getD, List.getElem?_eq_getElem hlt]
    rw [beryllaw20_has.l0, if_pos (by omega), if_pos (by omega), e2, er, List.drop_eq_getElem_cons hlt]
    by_cases h : xs[i] = n
    · rw [if_pos h]
      simp [h]
    · rw [if_neg h, ih (i + 1) k (by omega) (by omega)]
      exact congrArg some (decide_eq_decide.2 ⟨fun h' => List.mem_cons_of_mem _ h', fun h' => (List.mem_cons.1 h').resolve_left (fun e => h e.symm)⟩)
theorem has_f (xs : List Int) (hl : xs.length ≤ 4398046511104) (n : Int) (k : Nat) (hk : xs.length < k) : beryllaw20_has.f k xs n = some (decide (n ∈ xs)) := by
  have := has_l0 xs hl n xs.length 0 k (by omega) hk
  simpa [beryllaw20_has.f] using this
end Go.Proofs.Ytcdpkdehogcjnaa.Print

/-! DiskRoom, in plain Lean: what it computes answers true. -/
namespace Go.Proofs.Ytcdpkdehogcjnaa.Print
open Go Go.RowKit Go.Proofs.YtcdpkdehogcjnaaW.PrintWords Go.Proofs.YtcdpkdehogcjnaaW.PrintLast Go.Proofs.YtcdpkdehogcjnaaW.PrintMore

theorem rdW (l : List S34) (i : Nat) (h : i < l.length) : rd_T34 l (i : Int) = l[i] := by
  unfold rd_T34
  simp [List.getD_eq_getElem?_getD, List.getElem?_eq_getElem h]
theorem room_loop (fr : List Int) (ws : List S34) (hf : fr.length ≤ 300) (hw : ws.length ≤ 1000) (h64 : ∀ (i : Nat) (h : i < ws.length), ws[i].f1.length = 64)
    (hin : ∀ (i : Nat) (h : i < ws.length), i + 1 < ws.length → ws[i].f0 ∈ fr) (hlast : ∀ (i : Nat) (h : i < ws.length), i + 1 = ws.length → 0 ≤ ws[i].f0 ∧ ws[i].f0 ≤ 1) :
    ∀ (m i k : Nat), i + m = ws.length → m + 400 < k → beryllaw20_DiskRoom.l0 k true fr ws (i : Int) = some true := by
  intro m
  induction m with
  | zero =>
    intro i k hi hk
    obtain ⟨k, rfl⟩ : ∃ j, k = j + 1 := ⟨k - 1, by omega⟩
    rw [beryllaw20_DiskRoom.l0, if_neg (by omega)]
  | succ m ih =>
    intro i k hi hk
    obtain ⟨k, rfl⟩ : ∃ j, k = j + 1 := ⟨k - 1, by omega⟩
    have hlt : i < ws.length := by omega
    have e2 : wrap64 ((i : Int) + 1) = ((i + 1 : Nat) : Int) := by unfold wrap64; omega
    have e3 : wrap64 ((ws.length : Int) - 1) = (ws.length : Int) - 1 := by unfold wrap64; omega
    have ih2 := ih (i + 1) k (by omega) (by omega)
    rw [beryllaw20_DiskRoom.l0, if_pos (by omega), if_pos (by omega), rdW ws i hlt, h64 i hlt, e2, e3, ih2]
    rw [if_pos (by rfl)]
    by_cases hl : i + 1 = ws.length
    · obtain ⟨h0, h1⟩ := hlast i hlt hl
      rw [if_pos (by omega), if_neg (by omega), if_neg (by omega), if_pos (by omega)]
    · rw [if_neg (by omega), if_neg (by omega), has_f fr (by omega) _ k (by omega), Option.bind_some]
      simp [hin i hlt (by omega)]

theorem bl (nb : Nat) (h8 : 8 ≤ nb) (h256 : nb ≤ 256) : disk_blocksAre.f (nb : Int) = some true := by
  have h : (8 : Int) ≤ (nb : Int) ∧ (nb : Int) ≤ 256 := ⟨by omega, by omega⟩
  rw [blocks_f]
  exact congrArg some (decide_eq_true h)
theorem roomF (nb : Nat) (h8 : 8 ≤ nb) (h256 : nb ≤ 256) : disk_Room.f (nb : Int) = some ((roomN nb : Int), 0) := by
  unfold disk_Room.f
  rw [bl nb h8 h256, Option.bind_some]
  simp only [if_true]
  rw [room_f nb h8 h256]
  rfl

theorem w_id (x : Int) (h0 : 0 ≤ x) (h1 : x ≤ 1000000) : wrap64 x = x := by
  unfold wrap64
  omega
theorem t62 (x : Nat) : Int.tdiv ((62 * x : Nat) : Int) 62 = (x : Int) := by
  rw [Int.tdiv_eq_ediv_of_nonneg (Int.natCast_nonneg _)]
  omega
theorem room62 (nb : Nat) (h256 : nb ≤ 256) : wrap64 (Int.tdiv ((roomN nb : Int)) 62) = (((nb - 2) / 2 : Nat) : Int) := by
  unfold roomN
  rw [t62]
  exact w_id _ (Int.natCast_nonneg _) (by omega)
theorem count62 (b M : Nat) (hb : b ≤ 23000) (hM : M = (b + 61) / 62) : ((M + 1 : Nat) : Int) = wrap64 (wrap64 (Int.tdiv (wrap64 ((b : Int) + 61)) 62) + 1) := by
  have hm : M ≤ 400 := by omega
  have e4 : ((b : Int) + 61) / 62 = (M : Int) := by omega
  have e1 := w_id ((b : Int) + 61) (by omega) (by omega)
  have e2 : Int.tdiv ((b : Int) + 61) 62 = (M : Int) := (Int.tdiv_eq_ediv_of_nonneg (by omega)).trans e4
  have e3 := w_id (M : Int) (by omega) (by omega)
  have e5 := w_id ((M : Int) + 1) (by omega) (by omega)
  rw [e1, e2, e3, e5]
  exact Int.natCast_succ M

theorem half_le (nb u f : Nat) (h1 : nb - 2 ≤ f + u) (h2 : u ≤ (nb - 2) / 2) : (nb - 2) / 2 ≤ f := by omega
theorem room_tail (n : Nat) (hn : 1990 ≤ n) (ak : Int) (hak : ak = 0 ∨ ak = 1) (bs fr : List Int) (rm j : Nat) (ver : Int) (hb : bs.length ≤ 23000) (hfr : fr.length ≤ 300) (hj1 : j ≤ 1) (hroom : bs.length ≤ rm → (bs.length + 61) / 62 ≤ fr.length)
    (ok : Bool) (hok : ok = (decide (bs.length ≤ rm) && decide (ver < 1099511627776))) :
    (if (if ak = 0 then ((bs.length : Int), (0 : Int)) else (0, ak)).snd = 0 then
      if (if ak = 0 then ((bs.length : Int), (0 : Int)) else (0, ak)).fst > (rm : Int) then
        beryllaw20_DiskRoom.j2 (n + 3) true (if ak = 0 then ((bs.length : Int), (0 : Int)) else (0, ak)).fst fr (if ak = 0 then (if ok then (writesF j ver fr bs, 0) else ([], 2)) else ([], ak)).fst (if ak = 0 then (if ok then (writesF j ver fr bs, 0) else ([], 2)) else ([], ak)).snd true
      else
        beryllaw20_DiskRoom.j2 (n + 3) true (if ak = 0 then ((bs.length : Int), (0 : Int)) else (0, ak)).fst fr (if ak = 0 then (if ok then (writesF j ver fr bs, 0) else ([], 2)) else ([], ak)).fst (if ak = 0 then (if ok then (writesF j ver fr bs, 0) else ([], 2)) else ([], ak)).snd (decide (ver ≥ 1099511627776))
    else
      if true = true then some ((if ak = 0 then (if ok then (writesF j ver fr bs, 0) else ([], 2)) else ([], ak)).snd == 1) else some false) = some true := by
  rcases hak with rfl | rfl
  · simp only [if_true]
    cases ok with
    | false =>
      simp only [Bool.false_eq_true, if_false]
      have hj : beryllaw20_DiskRoom.j2 (n + 3) true (bs.length : Int) fr [] 2 true = some true := by
        rw [beryllaw20_DiskRoom.j2]
        rfl
      by_cases hgt : (bs.length : Int) > (rm : Int)
      · rw [if_pos hgt]
        exact hj
      · rw [if_neg hgt]
        have hv : ver ≥ 1099511627776 := by
          have h1 := hok.symm
          rw [decide_eq_true (show bs.length ≤ rm by omega), Bool.true_and, decide_eq_false_iff_not] at h1
          omega
        rw [decide_eq_true hv]
        exact hj
    | true =>
      simp only [if_true]
      have h1 := hok.symm
      rw [Bool.and_eq_true, decide_eq_true_eq, decide_eq_true_eq] at h1
      obtain ⟨h1, h2⟩ := h1
      obtain ⟨M, hM⟩ : ∃ M, M = (bs.length + 61) / 62 := ⟨_, rfl⟩
      have hMl : M ≤ fr.length := by rw [hM]; exact hroom h1
      have hwl : (writesF j ver fr bs).length = M + 1 := by
        unfold writesF
        rw [List.length_append, writesL_len, ← hM]
        rfl
      have hat : ∀ i, i < M → (writesF j ver fr bs)[i]? = some (putAt (fr.take M ++ [0]) bs i) := by
        intro i hi
        unfold writesF
        rw [← hM, List.getElem?_append_left (by rw [writesL_len]; exact hi), writesL, List.getElem?_map, List.getElem?_range hi]
        rfl
      have hend : ((writesF j ver fr bs)[M]?).map (fun p => (p.f0, p.f1.length)) = some (1 - (j : Int), 64) := by
        unfold writesF
        rw [← hM, List.getElem?_append_right (by rw [writesL_len]; exact Nat.le_refl _), writesL_len, Nat.sub_self]
        simp [headB, wordL, longL]
      have hcount := count62 bs.length M hb hM
      rw [if_neg (by omega), decide_eq_false (by omega), beryllaw20_DiskRoom.j2, if_neg (by simp)]
      simp only [if_true]
      rw [show (((writesF j ver fr bs).length : Int) != wrap64 (wrap64 (Int.tdiv (wrap64 ((bs.length : Int) + 61)) 62) + 1)) = false from by rw [hwl, hcount]; simp, beryllaw20_DiskRoom.j3, if_neg (by simp)]
      clear hcount hok hroom
      generalize writesF j ver fr bs = ws at hwl hat hend ⊢
      have hM1 : M ≤ 400 := by omega
      obtain ⟨pe, hpe, hpe2⟩ := Option.map_eq_some_iff.1 hend
      obtain ⟨hpa, hpb⟩ := Prod.mk.inj hpe2
      have hgo := room_loop fr ws hfr (by omega) (fun i h => ?_) (fun i h hi => ?_) (fun i h hi => ?_) (M + 1) 0 (n + 1) (by omega) (by omega)
      · exact hgo
      · by_cases hi : i < M
        · rw [(List.getElem?_eq_some_iff.1 (hat i hi)).2]
          exact putAt_len _ _ _
        · have him : i = M := by omega
          subst him
          rw [(List.getElem?_eq_some_iff.1 hpe).2]
          exact hpb
      · have hi' : i < M := by omega
        rw [(List.getElem?_eq_some_iff.1 (hat i hi')).2]
        show (fr.take M ++ [0]).getD i 0 ∈ _
        have hg : (fr.take M ++ [0])[i]? = fr[i]? := by
          rw [List.getElem?_append_left (by simp; omega), List.getElem?_take, if_pos hi']
        rw [List.getD_eq_getElem?_getD, hg, List.getElem?_eq_getElem (show i < fr.length by omega)]
        exact List.getElem_mem _
      · have him : i = M := by omega
        subst him
        rw [(List.getElem?_eq_some_iff.1 hpe).2, hpa]
        omega
  · rfl

theorem askedF_vals (l : List S62) : askedF l = 0 ∨ askedF l = 1 := asked_vals l none
theorem wo (nb : Nat) (v : Int) (bs : List Int) : writesOk nb v bs = (decide (bs.length ≤ roomN nb) && decide (v < 1099511627776)) := by unfold writesOk; rfl
theorem room_free {u : List Nat} {nb : Nat} (h8 : 8 ≤ nb) (hu : u.length ≤ (nb - 2) / 2) (bs : List Int) : bs.length ≤ roomN nb → (bs.length + 61) / 62 ≤ (freeL u 2 (nb - 2)).length := fun h => free_room h8 hu h

theorem room_law (l0 : List Int) (l1 : List S62) (hb : IsBytes l0) (hl : l1.length * 32 ≤ 140737488351232) (hB : ∀ x ∈ l1, RecFits x) : ∃ k, beryllaw20_DiskRoom.f k l0 l1 = some true := by
  obtain ⟨b, hfew, hbnd⟩ := few_f l0 l1 hl hB
  obtain ⟨n, hn⟩ : ∃ n, n = l1.length + 1990 := ⟨_, rfl⟩
  have hn1 : 1990 ≤ n := by omega
  refine ⟨n + 5, ?_⟩
  have hlm : l1.length ≤ 9223372036854775807 := by omega
  unfold beryllaw20_DiskRoom.f beryllaw20_awake.f
  rw [Option.bind_some, hfew _ (by omega), Option.bind_some]
  cases b with
  | false =>
    rw [if_neg (by simp), beryllaw20_DiskRoom.j0, if_pos rfl]
  | true =>
    obtain ⟨hd, h300, htot⟩ := hbnd rfl
    have hrl := recs_len l1
    have hrb : (recsB l1).length ≤ 23000 := by omega
    rw [if_pos rfl]
    have hck : disk_Check.f l0 = some (match diskF l0 with | none => 200 | some _ => 0) := by unfold disk_Check.f; rw [if_pos hb]; rfl
    rw [hck, Option.bind_some, beryllaw20_DiskRoom.j0]
    obtain ⟨o, ho⟩ : ∃ o, o = diskF l0 := ⟨_, rfl⟩
    rw [← ho]
    cases o with
    | none => rw [if_pos (by rfl)]
    | some q =>
      obtain ⟨j, st⟩ := q
      obtain ⟨e64, h8, h256, hj1, _, hv1, hv2, hu⟩ := disk_facts ho.symm
      rw [if_neg (by simp)]
      obtain ⟨nb, hnb⟩ : ∃ nb, nb = l0.length / 64 := ⟨_, rfl⟩
      rw [← hnb] at e64 h8 h256 hu
      have e1 : wrap64 ((l0.length : Int) / 64) = (nb : Int) := by unfold wrap64; omega
      have hnb3 : nb - 2 ≤ 300 := Nat.le_trans (Nat.sub_le _ _) (Nat.le_trans h256 (by decide))
      have hroom := roomF nb h8 h256
      have hfree : disk_Free.f l0 = some (freeL st.used 2 (nb - 2), 0) := by
        unfold disk_Free.f
        rw [if_pos hb, ← ho, hnb]
      have hver : disk_Version.f l0 = some (st.ver, 0) := by
        unfold disk_Version.f
        rw [if_pos hb, ← ho]
      have hwr : disk_Write.f l0 l1 = some (if askedF l1 = 0 then changeR l0 j st l1 else ([], askedF l1)) := by
        unfold disk_Write.f writeR
        rw [if_pos ⟨hb, by omega⟩, ← ho]
      have hfl : (freeL st.used 2 (nb - 2)).length ≤ nb - 2 := freeL_len _ _ _
      have hfm := free_many st.used (nb - 2) 2
      rw [e1, hroom, Option.bind_some, bytes_k l1 hlm (by omega) _ (by omega), Option.bind_some, hfree, Option.bind_some, hver, Option.bind_some, hwr, Option.bind_some]
      simp only [if_true]
      have hr62 := room62 nb h256
      have hge : (nb - 2) / 2 ≤ (freeL st.used 2 (nb - 2)).length := half_le _ _ _ hfm hu
      have hdec : decide (((freeL st.used 2 (nb - 2)).length : Int) < wrap64 (Int.tdiv ((roomN nb : Int)) 62)) = false := by
        rw [hr62]
        exact decide_eq_false (Int.not_lt.2 (Int.ofNat_le.2 hge))
      rw [hdec, beryllaw20_DiskRoom.j1, if_neg (by simp)]
      have hch : changeR l0 j st l1 = if writesOk nb st.ver (recsB l1) then (writesF j st.ver (freeL st.used 2 (nb - 2)) (recsB l1), 0) else ([], 2) := by unfold changeR; rw [← hnb]
      rw [hch]
      have hwo := wo nb st.ver (recsB l1)
      have q1 := askedF_vals l1
      have q2 : (freeL st.used 2 (nb - 2)).length ≤ 300 := Nat.le_trans hfl hnb3
      have q3 := room_free h8 hu (recsB l1)
      generalize recsB l1 = bs at hwo q3 hrb ⊢
      generalize askedF l1 = ak at q1 ⊢
      generalize freeL st.used 2 (nb - 2) = fr at q2 q3 ⊢
      generalize writesOk nb st.ver bs = ok at hwo ⊢
      generalize roomN nb = rm at hwo q3 ⊢
      exact room_tail n hn1 ak q1 bs fr rm j st.ver hrb q2 hj1 q3 ok hwo
end Go.Proofs.Ytcdpkdehogcjnaa.Print

/-! DiskFree, in plain Lean: bytes of a block that a state does not use do not matter. -/
namespace Go.Proofs.Ytcdpkdehogcjnaa.Print
open Go Go.RowKit Go.Proofs.YtcdpkdehogcjnaaW.PrintWords Go.Proofs.YtcdpkdehogcjnaaW.PrintLast Go.Proofs.YtcdpkdehogcjnaaW.PrintMore

theorem putF_get {xs : List Int} {p : S34} (h : PutOk xs.length p) (q : Nat) (hq : q < p.f0.toNat * 64 ∨ p.f0.toNat * 64 + p.f1.length ≤ q) : (putF xs p)[q]? = xs[q]? := by
  obtain ⟨h0, h1, h2⟩ := h
  unfold putF
  have hl : (xs.take (p.f0.toNat * 64)).length = p.f0.toNat * 64 := by simp; omega
  rcases hq with hq | hq
  · rw [List.getElem?_append_left (by omega), List.getElem?_take, if_pos hq]
  · rw [List.getElem?_append_right (by omega), hl, List.getElem?_append_right (by omega), List.getElem?_drop]
    congr 1
    omega
theorem blk_get (xs : List Int) (i q : Nat) : (blkL xs i)[q]? = if q < 64 then xs[i * 64 + q]? else none := by
  unfold blkL
  rw [List.getElem?_take]
  split
  · rw [List.getElem?_drop]
  · rfl
theorem putF_blk {xs : List Int} {p : S34} (h : PutOk xs.length p) (i : Nat) (hi : i ≠ p.f0.toNat) : blkL (putF xs p) i = blkL xs i := by
  obtain ⟨_, _, h2⟩ := id h
  apply List.ext_getElem?
  intro q
  rw [blk_get, blk_get]
  split
  · refine putF_get h _ ?_
    rcases Nat.lt_or_ge i p.f0.toNat with h3 | h3
    · left
      have : (i + 1) * 64 ≤ p.f0.toNat * 64 := Nat.mul_le_mul_right 64 h3
      omega
    · right
      have : (p.f0.toNat + 1) * 64 ≤ i * 64 := Nat.mul_le_mul_right 64 (by omega)
      omega
  · rfl
theorem putF_bytes {xs : List Int} {p : S34} (h : IsBytes xs) (hp : IsBytes p.f1) : IsBytes (putF xs p) := by
  intro x hx
  unfold putF at hx
  rcases List.mem_append.1 hx with hx | hx
  · exact h x (List.mem_of_mem_take hx)
  · rcases List.mem_append.1 hx with hx | hx
    · exact hp x hx
    · exact h x (List.mem_of_mem_drop hx)

theorem chain_in (d : List Int) (nb : Nat) : ∀ (m a : Nat) (used : List Nat) (all : List Int) (u : List Nat) (al : List Int), chainF d nb m a used all = some (u, al) → ∀ x ∈ used, x ∈ u
  | 0, a, used, all, u, al, h, x, hx => by
    unfold chainF at h
    split at h
    · cases h; exact hx
    · cases h
  | m + 1, a, used, all, u, al, h, x, hx => by
    unfold chainF at h
    split at h
    · exact chain_in d nb m _ _ _ _ _ h x (List.mem_append_left _ hx)
    · cases h
/-- a chain is read alike where its blocks are alike -/
theorem chain_same (d d' : List Int) (nb : Nat) : ∀ (m a : Nat) (used : List Nat) (all : List Int) (u : List Nat) (al : List Int), chainF d nb m a used all = some (u, al) → (∀ x ∈ u, blkL d' x = blkL d x) → chainF d' nb m a used all = some (u, al)
  | 0, a, used, all, u, al, h, _ => h
  | m + 1, a, used, all, u, al, h, hs => by
    unfold chainF at h ⊢
    split at h
    · rename_i hc
      have ha : a ∈ u := chain_in d nb m _ _ _ _ _ h a (by simp)
      rw [if_pos hc, hs a ha]
      exact chain_same d d' nb m _ _ _ _ _ h hs
    · cases h
theorem head_same {xs ys : List Int} {nb i : Nat} {st : HSt} (h : headF xs nb i = some st) (hi : blkL ys i = blkL xs i) (hs : ∀ x ∈ st.used, blkL ys x = blkL xs x) : headF ys nb i = some st := by
  unfold headF at h ⊢
  simp only [hi] at h ⊢
  split at h
  · rename_i ho
    rw [if_pos ho]
    unfold headG at h ⊢
    split at h
    · cases h
    · rename_i used all hc
      split at h
      · rename_i hz
        rw [Option.map_eq_some_iff] at h
        obtain ⟨rs, hr, rfl⟩ := h
        rw [chain_same xs ys nb _ _ _ _ _ _ hc hs]
        simp only
        rw [if_pos hz, hr]
        rfl
      · cases h
  · cases h
/-- the version that a head's bytes tell -/
def verB (xs : List Int) (i : Nat) : Int := numb (((blkL xs i).drop 24).take 8)
theorem head_ver {xs : List Int} {nb i : Nat} {st : HSt} (h : headF xs nb i = some st) : st.ver = ((verB xs i).toNat : Int) := by
  unfold headF at h
  simp only at h
  split at h
  · unfold headG at h
    split at h
    · cases h
    · split at h
      · rw [Option.map_eq_some_iff] at h
        obtain ⟨rs, _, rfl⟩ := h
        rfl
      · cases h
  · cases h
/-- the best head stays the best, if the other one tells less -/
theorem best_same {xs ys : List Int} {nb j : Nat} {st : HSt} (h : bestK xs nb 2 = some (j, st)) (hj : headF ys nb j = some st) (ho : ∀ s, headF ys nb (1 - j) = some s → s.ver < st.ver) : bestK ys nb 2 = some (j, st) := by
  obtain ⟨hj2, _⟩ := best_head h
  have hj' : j = 0 ∨ j = 1 := by omega
  rcases hj' with rfl | rfl
  · unfold bestK bestK bestK
    rw [hj]
    cases h1 : headF ys nb 1 with
    | none => rfl
    | some s =>
      have := ho s h1
      simp only
      rw [if_neg (by omega)]
  · unfold bestK bestK bestK
    rw [hj]
    cases h1 : headF ys nb 0 with
    | none => rfl
    | some s =>
      have := ho s h1
      simp only
      rw [if_pos this]
theorem free_mem (u : List Nat) : ∀ (k i : Nat) (x : Int), x ∈ freeL u i k → ∃ f : Nat, x = (f : Int) ∧ i ≤ f ∧ f < i + k ∧ u.contains f = false
  | 0, i, x, h => by simp [freeL] at h
  | k + 1, i, x, h => by
    unfold freeL at h
    split at h
    · obtain ⟨f, h1, h2, h3, h4⟩ := free_mem u k (i + 1) x h
      exact ⟨f, h1, by omega, by omega, h4⟩
    · rename_i hc
      rcases List.mem_cons.1 h with rfl | h
      · exact ⟨i, rfl, Nat.le_refl _, by omega, by simpa using hc⟩
      · obtain ⟨f, h1, h2, h3, h4⟩ := free_mem u k (i + 1) x h
        exact ⟨f, h1, by omega, by omega, h4⟩

/-- WHAT IS TORN DOES NOT MATTER -/
theorem disk_torn {xs b : List Int} {j : Nat} {st : HSt} (h : diskF xs = some (j, st)) (f : Int) (hf : f ∈ freeL st.used 2 (xs.length / 64 - 2)) (hb : b.length ≤ 64) (ho : (verB xs (1 - j)).toNat < st.ver) :
    PutOk xs.length ⟨f, b⟩ ∧ diskF (putF xs ⟨f, b⟩) = some (j, st) := by
  obtain ⟨e64, h8, h256, hj1, hh, hv1, hv2, hu⟩ := disk_facts h
  obtain ⟨q, rfl, hq2, hqn, hqu⟩ := free_mem _ _ _ _ hf
  have hP : PutOk xs.length (⟨(q : Int), b⟩ : S34) := by
    refine ⟨Int.natCast_nonneg _, ?_, hb⟩
    show ((q : Int).toNat + 1) * 64 ≤ xs.length
    rw [Int.toNat_natCast]
    omega
  refine ⟨hP, ?_⟩
  have hl : (putF xs ⟨(q : Int), b⟩).length = xs.length := putF_len hP
  have hblk : ∀ i, i ≠ q → blkL (putF xs ⟨(q : Int), b⟩) i = blkL xs i := fun i hi => putF_blk hP i (by show i ≠ (q : Int).toNat; rw [Int.toNat_natCast]; exact hi)
  have hs : sizeOk xs.length = true := by
    unfold diskF at h
    split at h
    · assumption
    · cases h
  have hbest : bestK xs (xs.length / 64) 2 = some (j, st) := by
    unfold diskF at h
    rwa [if_pos hs] at h
  unfold diskF
  rw [hl, if_pos hs]
  refine best_same hbest (head_same hh (hblk j (by omega)) (fun x hx => hblk x (fun e => ?_))) (fun s hs2 => ?_)
  · subst e
    have : st.used.contains x = true := by simpa using hx
    rw [this] at hqu
    cases hqu
  · have h3 := head_ver hs2
    have h4 : verB (putF xs ⟨(q : Int), b⟩) (1 - j) = verB xs (1 - j) := by
      unfold verB
      rw [hblk (1 - j) (by omega)]
    rw [h4] at h3
    rw [h3]
    exact ho
end Go.Proofs.Ytcdpkdehogcjnaa.Print

/-! DiskFree, in plain Lean: the statement's small functions. -/
namespace Go.Proofs.Ytcdpkdehogcjnaa.Print
open Go Go.RowKit Go.Proofs.YtcdpkdehogcjnaaW.PrintWords Go.Proofs.YtcdpkdehogcjnaaW.PrintLast Go.Proofs.YtcdpkdehogcjnaaW.PrintMore

theorem same_recs (l : List S62) (hl : l.length ≤ 9223372036854775807) (k : Nat) (hk : l.length < k) : berylref20_SameRecords.f k l l = some true := by
  have go : ∀ (m i k : Nat), i + m = l.length → m < k → berylref20_SameRecords.l0 k l l (i : Int) = some true := by
    intro m
    induction m with
    | zero =>
      intro i k hi hk
      obtain ⟨k, rfl⟩ : ∃ j, k = j + 1 := ⟨k - 1, by omega⟩
      rw [berylref20_SameRecords.l0, if_neg (by omega)]
    | succ m ih =>
      intro i k hi hk
      obtain ⟨k, rfl⟩ : ∃ j, k = j + 1 := ⟨k - 1, by omega⟩
      have e2 : wrap64 ((i : Int) + 1) = ((i + 1 : Nat) : Int) := by unfold wrap64; omega
      rw [berylref20_SameRecords.l0, if_pos (by omega), if_pos (by omega), if_pos (by omega), e2, ih (i + 1) k (by omega) (by omega)]
      simp
  unfold berylref20_SameRecords.f
  have h := go l.length 0 k (by omega) hk
  simpa using h
theorem same_puts (l : List S34) (hl : l.length ≤ 9223372036854775807) (k : Nat) (hk : l.length < k) : berylref20_SamePuts.f k l l = some true := by
  have go : ∀ (m i k : Nat), i + m = l.length → m < k → berylref20_SamePuts.l0 k l l (i : Int) = some true := by
    intro m
    induction m with
    | zero =>
      intro i k hi hk
      obtain ⟨k, rfl⟩ : ∃ j, k = j + 1 := ⟨k - 1, by omega⟩
      rw [berylref20_SamePuts.l0, if_neg (by omega)]
    | succ m ih =>
      intro i k hi hk
      obtain ⟨k, rfl⟩ : ∃ j, k = j + 1 := ⟨k - 1, by omega⟩
      have e2 : wrap64 ((i : Int) + 1) = ((i + 1 : Nat) : Int) := by unfold wrap64; omega
      rw [berylref20_SamePuts.l0, if_pos (by omega), if_pos (by omega), if_pos (by omega), e2, ih (i + 1) k (by omega) (by omega)]
      simp
  unfold berylref20_SamePuts.f
  have h := go l.length 0 k (by omega) hk
  simpa using h
theorem pick_f (a n : Int) (h1 : 1 ≤ n) (h2 : n ≤ 1000000) : ∃ p, beryllaw20_pick.f a n = some p ∧ 0 ≤ p ∧ p < n := by
  unfold beryllaw20_pick.f
  rw [if_neg (by omega)]
  have hlt := Int.tmod_lt_of_pos a (show 0 < n by omega)
  have hgt : -n < Int.tmod a n := Int.lt_tmod_of_pos a (show 0 < n by omega)
  generalize Int.tmod a n = r at hlt hgt ⊢
  split
  · exact ⟨_, rfl, by unfold wrap64; omega, by unfold wrap64; omega⟩
  · exact ⟨r, rfl, by omega, hlt⟩

theorem w63 (x : Int) (h0 : 0 ≤ x) (h1 : x < 9223372036854775808) : wrap64 x = x := by
  unfold wrap64
  omega
theorem q32 (q : Nat) (h : q < 8) : ((24 + q : Nat) : Int) < 32 := by omega
theorem q24 (q : Nat) (h : 1 ≤ q) : ¬ ((24 + q : Nat) : Int) = 24 := by omega
theorem told_go (xs : List Int) (hl : xs.length ≤ 17000) (hb : IsBytes xs) (i : Nat) (v : Int) (hi : (i + 1) * 64 ≤ xs.length) (h0 : ((blkL xs i).drop 24).getD 0 0 ≤ 127) :
    ∀ (m q k : Nat), q + m = 8 → m < k → 1 ≤ q → beryllaw20_told.l0 k xs (i : Int) v (numb (((blkL xs i).drop 24).take q)) ((24 + q : Nat) : Int) = some (decide (numb (((blkL xs i).drop 24).take 8) ≥ v)) := by
  have hx : ∀ q, q < 8 → ((blkL xs i).drop 24)[q]? = some (xs.getD (i * 64 + 24 + q) 0) ∧ 0 ≤ xs.getD (i * 64 + 24 + q) 0 ∧ xs.getD (i * 64 + 24 + q) 0 < 256 := by
    intro q hq
    have hlt : i * 64 + 24 + q < xs.length := by omega
    have e : xs.getD (i * 64 + 24 + q) 0 = xs[i * 64 + 24 + q] := by simp [List.getD_eq_getElem?_getD, List.getElem?_eq_getElem hlt]
    rw [e, List.getElem?_drop, blk_get, if_pos (by omega), ← Nat.add_assoc, List.getElem?_eq_getElem hlt]
    exact ⟨rfl, hb _ (List.getElem_mem _)⟩
  have hnb : ∀ q, 1 ≤ q → q ≤ 8 → 0 ≤ numb (((blkL xs i).drop 24).take q) ∧ numb (((blkL xs i).drop 24).take q) < 128 * 256 ^ (q - 1) := by
    intro q
    induction q with
    | zero => intro h; omega
    | succ q ih =>
      intro _ hq8
      obtain ⟨h1, h2, h3⟩ := hx q (by omega)
      have hs : ((blkL xs i).drop 24).take (q + 1) = ((blkL xs i).drop 24).take q ++ [xs.getD (i * 64 + 24 + q) 0] := by rw [List.take_add_one, h1]; rfl
      rw [hs, numb_snoc]
      cases q with
      | zero =>
        rw [List.getD_eq_getElem?_getD, h1] at h0
        simp only [Option.getD_some] at h0
        simp only [List.take_zero]
        show 0 ≤ 256 * 0 + _ ∧ 256 * 0 + _ < 128 * 256 ^ 0
        omega
      | succ q =>
        obtain ⟨h4, h5⟩ := ih (by omega) (by omega)
        simp only [Nat.add_sub_cancel] at h5 ⊢
        rw [show (256 : Int) ^ (q + 1) = 256 ^ q * 256 from by rw [Int.pow_succ]]
        generalize (256 : Int) ^ q = P at h5 ⊢
        omega
  intro m
  induction m with
  | zero =>
    intro q k hq hk hq1
    obtain ⟨k, rfl⟩ : ∃ j, k = j + 1 := ⟨k - 1, by omega⟩
    obtain rfl : q = 8 := by omega
    rw [beryllaw20_told.l0, if_neg (by omega)]
  | succ m ih =>
    intro q k hq hk hq1
    obtain ⟨k, rfl⟩ : ∃ j, k = j + 1 := ⟨k - 1, by omega⟩
    obtain ⟨h1, h2, h3⟩ := hx q (by omega)
    obtain ⟨h4, h5⟩ := hnb q hq1 (by omega)
    have hp : (256 : Int) ^ (q - 1) ≤ 281474976710656 := by
      have hq7 : q = 1 ∨ q = 2 ∨ q = 3 ∨ q = 4 ∨ q = 5 ∨ q = 6 ∨ q = 7 := by omega
      rcases hq7 with rfl | rfl | rfl | rfl | rfl | rfl | rfl <;> decide
    have hs : ((blkL xs i).drop 24).take (q + 1) = ((blkL xs i).drop 24).take q ++ [xs.getD (i * 64 + 24 + q) 0] := by rw [List.take_add_one, h1]; rfl
    have ih2 := ih (q + 1) k (by omega) (by omega) (by omega)
    rw [hs, numb_snoc] at ih2
    have hi3 : i ≤ 1000 := by omega
    have hq8 : q < 8 := by omega
    have ea : wrap64 (wrap64 ((i : Int) * 64) + ((24 + q : Nat) : Int)) = ((i * 64 + 24 + q : Nat) : Int) := by
      clear ih ih2 hnb hx h0 h1 h2 h3 h4 h5 hp hs
      rw [w63 ((i : Int) * 64) (by omega) (by omega), w63 _ (by omega) (by omega)]
      omega
    have er : rd xs ((i * 64 + 24 + q : Nat) : Int) = xs.getD (i * 64 + 24 + q) 0 := by unfold rd; rw [Int.toNat_natCast]
    generalize xs.getD (i * 64 + 24 + q) 0 = x at h2 h3 er ih2
    generalize numb (((blkL xs i).drop 24).take q) = n at h4 h5 ih2 ⊢
    generalize (256 : Int) ^ (q - 1) = P at h5 hp
    have hn2 : n < 36028797018963968 := by
      clear ih ih2 hnb hx h0 h1 hs ea er
      omega
    have en : wrap64 (wrap64 (256 * n) + wrap64 x) = 256 * n + x := by
      clear ih ih2 hnb hx h0 h1 hs ea er hp h5
      rw [w63 (256 * n) (by omega) (by omega), w63 x h2 (by omega), w63 _ (by omega) (by omega)]
    have e1 : wrap64 (((24 + q : Nat) : Int) + 1) = ((24 + (q + 1) : Nat) : Int) := by
      clear ih ih2 hnb hx h0 h1 hs ea er hp h5
      rw [w63 _ (by omega) (by omega)]
      omega
    have hlen : i * 64 + 24 + q < xs.length := by
      clear ih ih2 hnb hx h0 h1 hs ea er hp h5 en e1
      omega
    clear hnb hx h0 h1 hs hp h5
    rw [beryllaw20_told.l0, if_pos (q32 q hq8), ea, if_pos (Int.natCast_nonneg _), if_pos (Int.ofNat_lt.2 hlen), if_neg (q24 q hq1), er, en, e1]
    exact ih2
theorem told_f (xs : List Int) (hl : xs.length ≤ 17000) (hb : IsBytes xs) (i : Nat) (v : Int) (hi : (i + 1) * 64 ≤ xs.length) : ∃ t : Bool, (∀ k, 10 < k → beryllaw20_told.f k xs (i : Int) v = some t) ∧ (t = false → verB xs i < v) := by
  have hlt : i * 64 + 24 < xs.length := by omega
  have e : xs.getD (i * 64 + 24) 0 = xs[i * 64 + 24] := by simp [List.getD_eq_getElem?_getD, List.getElem?_eq_getElem hlt]
  have hx := hb _ (List.getElem_mem hlt)
  rw [← e] at hx
  have h1 : ((blkL xs i).drop 24)[0]? = some (xs.getD (i * 64 + 24) 0) := by
    rw [List.getElem?_drop, blk_get, if_pos (by omega)]
    show xs[i * 64 + 24]? = _
    rw [e, List.getElem?_eq_getElem hlt]
  have h0 : ((blkL xs i).drop 24).getD 0 0 = xs.getD (i * 64 + 24) 0 := by rw [List.getD_eq_getElem?_getD, h1]; rfl
  have hi3 : i ≤ 1000 := by omega
  have ea : wrap64 (wrap64 ((i : Int) * 64) + 24) = ((i * 64 + 24 : Nat) : Int) := by
    clear hx h1 h0 e
    rw [w63 ((i : Int) * 64) (by omega) (by omega), w63 _ (by omega) (by omega)]
    omega
  have er : rd xs ((i * 64 + 24 : Nat) : Int) = xs.getD (i * 64 + 24) 0 := by unfold rd; rw [Int.toNat_natCast]
  have ew : wrap64 (xs.getD (i * 64 + 24) 0) = xs.getD (i * 64 + 24) 0 := w63 _ hx.1 (Int.lt_trans hx.2 (by decide))
  have ew2 : wrap64 (wrap64 (256 * 0) + xs.getD (i * 64 + 24) 0) = xs.getD (i * 64 + 24) 0 := by
    rw [show wrap64 (256 * 0) = 0 from w63 0 (by decide) (by decide), Int.zero_add]
    exact ew
  by_cases hg : xs.getD (i * 64 + 24) 0 > 127
  · refine ⟨true, fun k hk => ?_, fun h => by cases h⟩
    obtain ⟨k, rfl⟩ : ∃ j, k = j + 1 := ⟨k - 1, by omega⟩
    unfold beryllaw20_told.f
    rw [beryllaw20_told.l0, if_pos (by decide), ea, if_pos (Int.natCast_nonneg _), if_pos (Int.ofNat_lt.2 hlt), if_pos rfl, er, ew, if_pos hg]
  · refine ⟨decide (numb (((blkL xs i).drop 24).take 8) ≥ v), fun k hk => ?_, fun h => ?_⟩
    · obtain ⟨k, rfl⟩ : ∃ j, k = j + 1 := ⟨k - 1, by omega⟩
      have hk7 : 7 < k := by omega
      have hgo := told_go xs hl hb i v hi (by rw [h0]; exact Int.not_lt.1 hg) 7 1 k rfl hk7 (Nat.le_refl _)
      have hs : ((blkL xs i).drop 24).take 1 = [xs.getD (i * 64 + 24) 0] := by
        have := List.take_add_one (l := (blkL xs i).drop 24) (i := 0)
        rw [h1] at this
        simpa using this
      rw [hs] at hgo
      have hn : numb [xs.getD (i * 64 + 24) 0] = xs.getD (i * 64 + 24) 0 := by simp [numb]
      rw [hn] at hgo
      have e1 : wrap64 ((24 : Int) + 1) = ((24 + 1 : Nat) : Int) := w63 25 (by decide) (by decide)
      unfold beryllaw20_told.f
      rw [beryllaw20_told.l0, if_pos (by decide), ea, if_pos (Int.natCast_nonneg _), if_pos (Int.ofNat_lt.2 hlt), if_pos rfl, er, ew, if_neg hg, ew2, e1]
      exact hgo
    · unfold verB
      exact Int.not_le.1 (of_decide_eq_false h)
end Go.Proofs.Ytcdpkdehogcjnaa.Print

/-! DiskFree's walk: it answers true. -/
namespace Go.Proofs.Ytcdpkdehogcjnaa.Print
open Go Go.RowKit Go.Proofs.YtcdpkdehogcjnaaW.PrintWords Go.Proofs.YtcdpkdehogcjnaaW.PrintLast Go.Proofs.YtcdpkdehogcjnaaW.PrintMore

theorem C_litP (x : S34) (A : Option Addr) (c : Nat) (W : World) (hc : x.f1.length ≤ c) (hC : Kd.C (Kd.int .u8) W A x.f1.length x.f1) :
    Kd.C k34 (W.alloc (.cells #[.int .i64 x.f0, .slice A x.f1.length c] 34)) (some ⟨W.heap.size, 0, none⟩) 1 [x] := by
  refine ⟨rfl, by omega, fun _ => ⟨_, rfl, fun j p hj => ?_⟩⟩
  cases j with
  | succ j => simp at hj
  | zero =>
    simp at hj
    subst hj
    refine ⟨_, rfl, k34_mk _ x hc (Kd.C_below hC (below_alloc (Below.refl _ _) _)), fun i u hu => ?_⟩
    have := lit_cell W #[.int .i64 x.f0, .slice A x.f1.length c] 34 i u (by simpa using hu)
    simpa using this
/-- the write that the statement makes fits -/
theorem free_put {xs b : List Int} {j : Nat} {st : HSt} (h : diskF xs = some (j, st)) (f : Int) (hf : f ∈ freeL st.used 2 (xs.length / 64 - 2)) (hb : b.length ≤ 64) (hb1 : 1 ≤ b.length) :
    PutOk xs.length ⟨f, b⟩ ∧ disk_Do.f xs [⟨f, b⟩] = some (putF xs ⟨f, b⟩, 0) := by
  obtain ⟨e64, h8, h256, _, _, _, _, _⟩ := disk_facts h
  obtain ⟨q, rfl, hq2, hqn, _⟩ := free_mem _ _ _ _ hf
  have hs : sizeOk xs.length = true := by
    unfold diskF at h
    split at h
    · assumption
    · cases h
  refine ⟨⟨Int.natCast_nonneg _, ?_, hb⟩, ?_⟩
  · show ((q : Int).toNat + 1) * 64 ≤ xs.length
    rw [Int.toNat_natCast]
    omega
  · have hp : putsF xs [(⟨(q : Int), b⟩ : S34)] = 0 := by
      unfold putsF putsR putsR
      rw [if_pos hs]
      simp only
      rw [if_neg (by omega), if_neg (by omega), if_neg (by omega), if_neg (by omega)]
    unfold disk_Do.f
    rw [hp, if_pos rfl]
    rfl

/-- the same state, or both heads tell at least its version -/
theorem free_same {xs b : List Int} {j : Nat} {st : HSt} (h : diskF xs = some (j, st)) (hb0 : IsBytes xs) (hl : xs.length ≤ 17000) (f : Int) (hf : f ∈ freeL st.used 2 (xs.length / 64 - 2)) (hb : b.length ≤ 64) :
    ∃ t0 t1 : Bool, beryllaw20_told.f 11 xs 0 st.ver = some t0 ∧ beryllaw20_told.f 11 xs 1 st.ver = some t1 ∧ ((t0 && t1) = false → diskF (putF xs ⟨f, b⟩) = some (j, st)) := by
  obtain ⟨e64, h8, _, hj1, hh, hv1, _, _⟩ := disk_facts h
  obtain ⟨t0, h0, g0⟩ := told_f xs hl hb0 0 st.ver (by omega)
  obtain ⟨t1, h1, g1⟩ := told_f xs hl hb0 1 st.ver (by omega)
  refine ⟨t0, t1, h0 11 (by decide), h1 11 (by decide), fun ht => ?_⟩
  have hvj : ((verB xs j).toNat : Int) = st.ver := (head_ver hh).symm
  have hlt : ∀ v : Int, v < st.ver → (v.toNat : Int) < st.ver := fun v hv => by omega
  have key : verB xs (1 - j) < st.ver := by
    have hj : j = 0 ∨ j = 1 := by omega
    rcases hj with rfl | rfl
    · cases t1 with
      | false => exact g1 rfl
      | true =>
        have : t0 = false := by simpa using ht
        have := g0 this
        omega
    · cases t0 with
      | false => exact g0 rfl
      | true =>
        have : t1 = false := by simpa using ht
        have := g1 this
        omega
  exact (disk_torn h f hf hb (hlt _ key)).2

theorem free_end {xs ys : List Int} {j : Nat} {st : HSt} {rn : List S62} {eh uv ej : Int} (hb : IsBytes xs) (hy : IsBytes ys) (h : diskF xs = some (j, st)) (hs : diskF ys = some (j, st)) (hl : ys.length = xs.length)
    (h1 : disk_Open.f ys = some (rn, eh)) (h2 : disk_Version.f ys = some (uv, ej)) (l : List S62) (hr : (recsB l).length ≤ 70368744177664) :
    rn = st.recs ∧ eh = 0 ∧ uv = st.ver ∧ ej = 0 ∧ ∃ (rw_ : List S34) (re : Int), disk_Write.f xs l = some (rw_, re) ∧ disk_Write.f ys l = some (rw_, re) ∧ rw_.length ≤ 400 := by
  unfold disk_Open.f at h1
  rw [if_pos hy, hs] at h1
  unfold disk_Version.f at h2
  rw [if_pos hy, hs] at h2
  obtain ⟨e1, e2⟩ := Prod.mk.inj (Option.some.inj h1)
  obtain ⟨e3, e4⟩ := Prod.mk.inj (Option.some.inj h2)
  refine ⟨e1.symm, e2.symm, e3.symm, e4.symm, (writeR xs l).1, (writeR xs l).2, ?_, ?_, ?_⟩
  · unfold disk_Write.f
    rw [if_pos ⟨hb, hr⟩]
  · have he : writeR ys l = writeR xs l := by
      unfold writeR
      rw [hs, h]
      unfold changeR
      rw [hl]
    unfold disk_Write.f
    rw [if_pos ⟨hy, hr⟩, he]
  · obtain ⟨_, h8, h256, _, _, _, _, hu⟩ := disk_facts h
    unfold writeR
    rw [h]
    simp only
    split
    · unfold changeR
      split
      · rename_i ho
        have ho2 := ho
        unfold writesOk at ho2
        simp at ho2
        have hf := free_room h8 hu ho2.1
        have hg := freeL_len st.used (xs.length / 64 - 2) 2
        show (writesF j st.ver _ (recsB l)).length ≤ 400
        unfold writesF
        rw [List.length_append, writesL_len]
        have hlen : ((recsB l).length + 61) / 62 ≤ 256 := Nat.le_trans hf (Nat.le_trans hg (Nat.le_trans (Nat.sub_le _ _) h256))
        exact Nat.le_trans (Nat.add_le_add_right hlen _) (by show 256 + 1 ≤ 400; decide)
      · simp
    · simp

set_option maxRecDepth 100000 in
set_option maxHeartbeats 4000000 in
theorem free_walk (A0 : Option Addr) (c0 : Nat) (l0 : List Int) (a1 : Int) (A2 : Option Addr) (c2 : Nat) (l2 : List Int) (A3 : Option Addr) (c3 : Nat) (l3 : List S62) (w : World)
    (hr0 : Kd.C (Kd.int .u8) w A0 l0.length l0) (hc0 : l0.length ≤ c0) (hb0 : IsBytes l0) (hr2 : Kd.C (Kd.int .u8) w A2 l2.length l2) (hc2 : l2.length ≤ c2) (hb2 : IsBytes l2)
    (hr3 : Kd.C k62 w A3 l3.length l3) (hc3 : l3.length ≤ c3) (hl3 : l3.length * 32 ≤ 140737488351232) (hB3 : ∀ x ∈ l3, RecFits x) :
    Calls Try.prog 3 #[.slice A0 l0.length c0, .int .i64 a1, .slice A2 l2.length c2, .slice A3 l3.length c3] w fun e w' => e = .returned (.bool true) ∧ Below w.heap.size w w' := by
  have HR0 := Aside0.mk hr0
  have HR2 := Aside0.mk hr2
  have HR3 := Aside0.mk hr3
  have HB0 := Aside0.mk hb0
  have HB2 := Aside0.mk hb2
  obtain ⟨fw, hfew, hbnd⟩ := few_f l0 l3 hl3 hB3
  have HF := Aside0.mk (hfew (l3.length + 1) (Nat.lt_succ_self _))
  have HBD := Aside0.mk hbnd
  have HB3 := Aside0.mk hB3
  clear hr0 hr2 hr3 hb0 hb2 hfew hbnd hB3
  go_enter Try.func3, Try.ntmps3
  go_wp2_with fail
  refine (beryllaw20_awake.calls true w rfl).mono ?_
  rintro e w1 ⟨rfl, hB1⟩
  have HW1 := Aside0.mk hB1
  have HR01 : Aside0 (Kd.C (Kd.int .u8) w1 A0 l0.length l0) := ⟨Kd.C_below HR0.out hB1⟩
  have HR21 : Aside0 (Kd.C (Kd.int .u8) w1 A2 l2.length l2) := ⟨Kd.C_below HR2.out hB1⟩
  have HR31 : Aside0 (Kd.C k62 w1 A3 l3.length l3) := ⟨Kd.C_below HR3.out hB1⟩
  clear hB1 HR0 HR2 HR3
  go_wp2_with fail
  refine (beryllaw20_few.calls (l3.length + 1) A0 c0 l0 A3 c3 l3 fw w1 HR01.out hc0 HR31.out hc3 HF.out).mono ?_
  rintro e w2 ⟨rfl, ⟨nd, rfl⟩⟩
  cases fw with
  | false =>
    go_wp2_with fail
    go_returns
    exact ⟨rfl, pw_below_drewN HW1.out _⟩
  | true =>
    obtain ⟨hd, h300, htot⟩ := HBD.out rfl
    by_cases h64 : (64 : Int) < (l2.length : Int)
    · have d64 : decide ((64 : Int) < (l2.length : Int)) = true := decide_eq_true h64
      clear h64
      go_wp2_with fail
      go_returns
      exact ⟨rfl, pw_below_drewN HW1.out _⟩
    have d64 : decide ((64 : Int) < (l2.length : Int)) = false := decide_eq_false h64
    have hl64 : l2.length ≤ 64 := by omega
    clear h64
    by_cases h0 : l2.length = 0
    · have d0 : ((l2.length : Int) == 0) = true := by rw [h0]; rfl
      clear h0 hl64
      go_wp2_with fail
      go_returns
      exact ⟨rfl, pw_below_drewN HW1.out _⟩
    have d0 : ((l2.length : Int) == 0) = false := by rw [beq_eq_false_iff_ne]; omega
    have hl1 : 1 ≤ l2.length := by omega
    clear h0
    obtain ⟨w2, hw2⟩ : ∃ w2, w2 = w1.drewN nd := ⟨_, rfl⟩
    have hB12 : Below w1.heap.size w1 w2 := by rw [hw2]; exact pw_below_drewN (Below.refl _ _) _
    have HW2 : Aside0 (Below w.heap.size w w2) := ⟨HW1.out.trans (hB12.mono HW1.out.size)⟩
    have HR02 : Aside0 (Kd.C (Kd.int .u8) w2 A0 l0.length l0) := ⟨Kd.C_below HR01.out hB12⟩
    have HR22 : Aside0 (Kd.C (Kd.int .u8) w2 A2 l2.length l2) := ⟨Kd.C_below HR21.out hB12⟩
    have HR32 : Aside0 (Kd.C k62 w2 A3 l3.length l3) := ⟨Kd.C_below HR31.out hB12⟩
    rw [← hw2]
    clear hw2 hB12 HR01 HR21 HR31 HW1
    have HFREE : Aside0 (disk_Free.f l0 = some (match diskF l0 with | none => ([], 200) | some (_, st) => (freeL st.used 2 (l0.length / 64 - 2), 0))) := ⟨by unfold disk_Free.f; rw [if_pos HB0.out]; rfl⟩
    obtain ⟨o, ho⟩ : ∃ o, o = diskF l0 := ⟨_, rfl⟩
    rw [← ho] at HFREE
    have HO := Aside0.mk ho
    clear ho
    cases o with
    | none =>
      go_wp2_with fail
      refine (disk_Free.calls A0 c0 l0 [] 200 w2 HR02.out hc0 HFREE.out).mono ?_
      rintro e w3 ⟨v3, rfl, hR3, hB3⟩
      obtain ⟨A4, c4, rfl⟩ := Kd.R_slice hR3
      have HW3 : Aside0 (Below w.heap.size w w3) := ⟨HW2.out.trans (hB3.mono HW2.out.size)⟩
      clear hR3 hB3
      go_wp2_with fail
      go_returns
      exact ⟨rfl, HW3.out⟩
    | some q =>
      obtain ⟨j, st⟩ := q
      obtain ⟨fr, hfr⟩ : ∃ fr, fr = freeL st.used 2 (l0.length / 64 - 2) := ⟨_, rfl⟩
      have HFREE2 : Aside0 (disk_Free.f l0 = some (fr, 0)) := ⟨by rw [hfr]; exact HFREE.out⟩
      have HFR := Aside0.mk hfr
      clear HFREE hfr
      go_wp2_with fail
      refine (disk_Free.calls A0 c0 l0 fr 0 w2 HR02.out hc0 HFREE2.out).mono ?_
      rintro e w3 ⟨v3, rfl, hR3, hB3⟩
      obtain ⟨A4, c4, rfl⟩ := Kd.R_slice hR3
      have hcf := (Kd.R_reads' hR3)
      have HW3 : Aside0 (Below w.heap.size w w3) := ⟨HW2.out.trans (hB3.mono HW2.out.size)⟩
      have HR03 : Aside0 (Kd.C (Kd.int .u8) w3 A0 l0.length l0) := ⟨Kd.C_below HR02.out hB3⟩
      have HR23 : Aside0 (Kd.C (Kd.int .u8) w3 A2 l2.length l2) := ⟨Kd.C_below HR22.out hB3⟩
      have HR33 : Aside0 (Kd.C k62 w3 A3 l3.length l3) := ⟨Kd.C_below HR32.out hB3⟩
      have HRF : Aside0 (Kd.C (Kd.int .i64) w3 A4 fr.length fr) := ⟨hcf.2.2⟩
      have hc4 : fr.length ≤ c4 := hcf.2.1
      clear hR3 hB3 hcf
      by_cases hf0 : fr.length = 0
      · have df : ((fr.length : Int) == 0) = true := by rw [hf0]; rfl
        clear hf0
        go_wp2_with fail
        go_returns
        exact ⟨rfl, HW3.out⟩
      have df : ((fr.length : Int) == 0) = false := by rw [beq_eq_false_iff_ne]; omega
      have hf1 : 1 ≤ fr.length := by omega
      clear hf0
      obtain ⟨e64, h8, h256, hj1, hhd, hv1, hv2, hu⟩ := disk_facts HO.out.symm
      have HE := Aside0.mk (⟨e64, hhd⟩ : _ ∧ _)
      clear e64 hhd
      have hfm : fr.length ≤ 1000000 := by
        rw [HFR.out]
        exact Nat.le_trans (freeL_len _ _ _) (Nat.le_trans (Nat.sub_le _ _) (Nat.le_trans h256 (by decide)))
      obtain ⟨pk, hpk, hp0, hp1⟩ := pick_f a1 (fr.length : Int) (by omega) (by omega)
      obtain ⟨pn, rfl⟩ := Int.eq_ofNat_of_zero_le hp0
      have HPK := Aside0.mk hpk
      have hpn : pn < fr.length := by omega
      have HH := Aside0.mk (⟨h8, h256, hv1, hv2, hu⟩ : _ ∧ _ ∧ _ ∧ _ ∧ _)
      have HPN := Aside0.mk hpn
      have HL := Aside0.mk (⟨hl1, hl64, hd, h300, htot⟩ : _ ∧ _ ∧ _ ∧ _ ∧ _)
      clear hpk h8 h256 hv1 hv2 hu hp0 hp1 hpn hfm hf1 hl1 hl64 hd h300 htot hl3
      obtain ⟨nf, hnf⟩ : ∃ nf, nf = fr.length := ⟨_, rfl⟩
      rw [← hnf] at df hc4 HRF HPK HPN ⊢
      have HNF := Aside0.mk hnf
      have HJ1 := Aside0.mk hj1
      clear hnf hj1
      go_wp2_with fail
      refine (beryllaw20_pick.calls a1 (nf : Int) (pn : Int) w3 HPK.out).mono ?_
      rintro e w4 ⟨rfl, ⟨nd2, rfl⟩⟩
      obtain ⟨w4, hw4⟩ : ∃ w4, w4 = w3.drewN nd2 := ⟨_, rfl⟩
      have hB34 : Below w3.heap.size w3 w4 := by rw [hw4]; exact pw_below_drewN (Below.refl _ _) _
      have HW4 : Aside0 (Below w.heap.size w w4) := ⟨HW3.out.trans (hB34.mono HW3.out.size)⟩
      have HR04 : Aside0 (Kd.C (Kd.int .u8) w4 A0 l0.length l0) := ⟨Kd.C_below HR03.out hB34⟩
      have HR24 : Aside0 (Kd.C (Kd.int .u8) w4 A2 l2.length l2) := ⟨Kd.C_below HR23.out hB34⟩
      have HR34 : Aside0 (Kd.C k62 w4 A3 l3.length l3) := ⟨Kd.C_below HR33.out hB34⟩
      have HRF4 := Kd.C_below HRF.out hB34
      obtain ⟨fv, hfv⟩ : ∃ fv, fv = fr.getD pn 0 := ⟨_, rfl⟩
      obtain ⟨ad, rfl, hcl⟩ : ∃ ad, A4 = some ad ∧ w4.cell? (ad.add pn) = some (.int .i64 fv) := by
        have hrd := Kd.reads_of_C (d := (0 : Int)) (h1 := fun _ => rfl) HRF4
        have hp := HPN.out
        obtain ⟨ad', e, hc⟩ := hrd.2.2 (by omega)
        exact ⟨ad', e, by rw [hfv]; exact hc pn (by omega)⟩
      have HFV := Aside0.mk hfv
      have hpi : (pn : Int) < (nf : Int) := by have hp := HPN.out; omega
      rw [← hw4]
      have hmem : fv ∈ freeL st.used 2 (l0.length / 64 - 2) := by
        have hp := HPN.out
        rw [HNF.out] at hp
        rw [hfv, ← HFR.out, List.getD_eq_getElem?_getD, List.getElem?_eq_getElem hp]
        exact List.getElem_mem _
      have HMEM := Aside0.mk hmem
      obtain ⟨hpo, hdo⟩ := free_put HO.out.symm fv hmem HL.out.2.1 HL.out.1
      obtain ⟨ys, hys⟩ : ∃ ys, ys = putF l0 ⟨fv, l2⟩ := ⟨_, rfl⟩
      rw [← hys] at hdo
      have HDO := Aside0.mk hdo
      have HPO := Aside0.mk hpo
      have HYB : Aside0 (IsBytes ys) := ⟨by rw [hys]; exact putF_bytes HB0.out HB2.out⟩
      have HYS := Aside0.mk hys
      clear hw4 hB34 HRF4 HRF HR03 HR23 HR33 HW3 hfv hmem hpo hdo hys
      go_wp2_with fail
      have HL4 := C_litP ⟨fv, l2⟩ A2 c2 w4 hc2 HR24.out
      have hB45 := below_alloc (Below.refl w4.heap.size w4) (.cells #[.int .i64 fv, .slice A2 l2.length c2] 34)
      obtain ⟨w5, hw5⟩ : ∃ w5, w5 = w4.alloc (.cells #[.int .i64 fv, .slice A2 l2.length c2] 34) := ⟨_, rfl⟩
      have HL5 : Aside0 (Kd.C k34 w5 (some ⟨w4.heap.size, 0, none⟩) 1 [⟨fv, l2⟩]) := ⟨by rw [hw5]; exact HL4⟩
      rw [← hw5] at hB45 ⊢
      have HW5 : Aside0 (Below w.heap.size w w5) := ⟨HW4.out.trans (hB45.mono HW4.out.size)⟩
      have HR05 : Aside0 (Kd.C (Kd.int .u8) w5 A0 l0.length l0) := ⟨Kd.C_below HR04.out hB45⟩
      have HR35 : Aside0 (Kd.C k62 w5 A3 l3.length l3) := ⟨Kd.C_below HR34.out hB45⟩
      clear HL4 hB45 hw5 HW4 HR04 HR34 HR24 hcl
      refine (disk_Do.calls A0 c0 l0 (some ⟨w4.heap.size, 0, none⟩) 1 [⟨fv, l2⟩] ys 0 w5 HR05.out hc0 HL5.out (Nat.le_refl _) HDO.out).mono ?_
      rintro e w6 ⟨v6, rfl, hR6, hB6⟩
      obtain ⟨A6, c6, rfl⟩ := Kd.R_slice hR6
      have hc6 := (Kd.R_reads' hR6).2.1
      have HY6 : Aside0 (Kd.C (Kd.int .u8) w6 A6 ys.length ys) := ⟨(Kd.R_reads' hR6).2.2⟩
      have HW6 : Aside0 (Below w.heap.size w w6) := ⟨HW5.out.trans (hB6.mono HW5.out.size)⟩
      have HR06 : Aside0 (Kd.C (Kd.int .u8) w6 A0 l0.length l0) := ⟨Kd.C_below HR05.out hB6⟩
      have HR36 : Aside0 (Kd.C k62 w6 A3 l3.length l3) := ⟨Kd.C_below HR35.out hB6⟩
      clear hR6 hB6 HW5 HR05 HR35 HL5
      have HOP0 : Aside0 (disk_Open.f l0 = some (st.recs, 0)) := ⟨by unfold disk_Open.f; rw [if_pos HB0.out, ← HO.out]⟩
      have HV0 : Aside0 (disk_Version.f l0 = some (st.ver, 0)) := ⟨by unfold disk_Version.f; rw [if_pos HB0.out, ← HO.out]⟩
      obtain ⟨⟨rn, eh⟩, hopy⟩ : ∃ q, disk_Open.f ys = some q := ⟨_, by unfold disk_Open.f; rw [if_pos HYB.out]⟩
      obtain ⟨⟨uv, ej⟩, hvy⟩ : ∃ q, disk_Version.f ys = some q := ⟨_, by unfold disk_Version.f; rw [if_pos HYB.out]⟩
      have HOPY := Aside0.mk hopy
      have HVY := Aside0.mk hvy
      obtain ⟨t0, t1, ht0, ht1, hsame⟩ := free_same HO.out.symm HB0.out HL.out.2.2.1 fv HMEM.out (b := l2) HL.out.2.1
      have HT0 := Aside0.mk ht0
      have HT1 := Aside0.mk ht1
      have HSM := Aside0.mk hsame
      clear hopy hvy ht0 ht1 hsame
      go_wp2_with fail
      refine (disk_Open.calls A0 c0 l0 st.recs 0 w6 HR06.out hc0 HOP0.out).mono ?_
      rintro e w7 ⟨v7, rfl, hR7, hB7⟩
      obtain ⟨A7, c7, rfl⟩ := Kd.R_slice hR7
      have hc7 := (Kd.R_reads' hR7).2.1
      have HM7 : Aside0 (Kd.C k62 w7 A7 st.recs.length st.recs) := ⟨(Kd.R_reads' hR7).2.2⟩
      have HW7 : Aside0 (Below w.heap.size w w7) := ⟨HW6.out.trans (hB7.mono HW6.out.size)⟩
      have HR07 : Aside0 (Kd.C (Kd.int .u8) w7 A0 l0.length l0) := ⟨Kd.C_below HR06.out hB7⟩
      have HR37 : Aside0 (Kd.C k62 w7 A3 l3.length l3) := ⟨Kd.C_below HR36.out hB7⟩
      have HY7 : Aside0 (Kd.C (Kd.int .u8) w7 A6 ys.length ys) := ⟨Kd.C_below HY6.out hB7⟩
      clear hR7 hB7 HW6 HR06 HR36 HY6
      go_wp2_with fail
      refine (disk_Open.calls A6 c6 ys rn eh w7 HY7.out hc6 HOPY.out).mono ?_
      rintro e w8 ⟨v8, rfl, hR8, hB8⟩
      obtain ⟨A8, c8, rfl⟩ := Kd.R_slice hR8
      have hc8 := (Kd.R_reads' hR8).2.1
      have HN8 : Aside0 (Kd.C k62 w8 A8 rn.length rn) := ⟨(Kd.R_reads' hR8).2.2⟩
      have HM8 : Aside0 (Kd.C k62 w8 A7 st.recs.length st.recs) := ⟨Kd.C_below HM7.out hB8⟩
      have HW8 : Aside0 (Below w.heap.size w w8) := ⟨HW7.out.trans (hB8.mono HW7.out.size)⟩
      have HR08 : Aside0 (Kd.C (Kd.int .u8) w8 A0 l0.length l0) := ⟨Kd.C_below HR07.out hB8⟩
      have HR38 : Aside0 (Kd.C k62 w8 A3 l3.length l3) := ⟨Kd.C_below HR37.out hB8⟩
      have HY8 : Aside0 (Kd.C (Kd.int .u8) w8 A6 ys.length ys) := ⟨Kd.C_below HY7.out hB8⟩
      clear hR8 hB8 HW7 HR07 HR37 HY7 HM7
      go_wp2_with fail
      refine (disk_Version.calls A0 c0 l0 st.ver 0 w8 HR08.out hc0 HV0.out).mono ?_
      rintro e w9 ⟨rfl, hB9⟩
      have HN9 : Aside0 (Kd.C k62 w9 A8 rn.length rn) := ⟨Kd.C_below HN8.out hB9⟩
      have HM9 : Aside0 (Kd.C k62 w9 A7 st.recs.length st.recs) := ⟨Kd.C_below HM8.out hB9⟩
      have HW9 : Aside0 (Below w.heap.size w w9) := ⟨HW8.out.trans (hB9.mono HW8.out.size)⟩
      have HR09 : Aside0 (Kd.C (Kd.int .u8) w9 A0 l0.length l0) := ⟨Kd.C_below HR08.out hB9⟩
      have HR39 : Aside0 (Kd.C k62 w9 A3 l3.length l3) := ⟨Kd.C_below HR38.out hB9⟩
      have HY9 : Aside0 (Kd.C (Kd.int .u8) w9 A6 ys.length ys) := ⟨Kd.C_below HY8.out hB9⟩
      clear hB9 HW8 HR08 HR38 HY8 HM8 HN8
      go_wp2_with fail
      refine (disk_Version.calls A6 c6 ys uv ej w9 HY9.out hc6 HVY.out).mono ?_
      rintro e w10 ⟨rfl, hB⟩
      have HN10 : Aside0 (Kd.C k62 w10 A8 rn.length rn) := ⟨Kd.C_below HN9.out hB⟩
      have HM10 : Aside0 (Kd.C k62 w10 A7 st.recs.length st.recs) := ⟨Kd.C_below HM9.out hB⟩
      have HW10 : Aside0 (Below w.heap.size w w10) := ⟨HW9.out.trans (hB.mono HW9.out.size)⟩
      have HR010 : Aside0 (Kd.C (Kd.int .u8) w10 A0 l0.length l0) := ⟨Kd.C_below HR09.out hB⟩
      have HR310 : Aside0 (Kd.C k62 w10 A3 l3.length l3) := ⟨Kd.C_below HR39.out hB⟩
      have HY10 : Aside0 (Kd.C (Kd.int .u8) w10 A6 ys.length ys) := ⟨Kd.C_below HY9.out hB⟩
      clear hB HW9 HR09 HR39 HY9 HM9 HN9
      go_wp2_with fail
      refine (beryllaw20_told.calls 11 A0 c0 l0 0 st.ver t0 w10 HR010.out hc0 HT0.out).mono ?_
      rintro e w11 ⟨rfl, ⟨nd4, rfl⟩⟩
      obtain ⟨w11, hw11⟩ : ∃ w11, w11 = w10.drewN nd4 := ⟨_, rfl⟩
      have hB : Below w10.heap.size w10 w11 := by rw [hw11]; exact pw_below_drewN (Below.refl _ _) _
      rw [← hw11]
      have HN11 : Aside0 (Kd.C k62 w11 A8 rn.length rn) := ⟨Kd.C_below HN10.out hB⟩
      have HM11 : Aside0 (Kd.C k62 w11 A7 st.recs.length st.recs) := ⟨Kd.C_below HM10.out hB⟩
      have HW11 : Aside0 (Below w.heap.size w w11) := ⟨HW10.out.trans (hB.mono HW10.out.size)⟩
      have HR011 : Aside0 (Kd.C (Kd.int .u8) w11 A0 l0.length l0) := ⟨Kd.C_below HR010.out hB⟩
      have HR311 : Aside0 (Kd.C k62 w11 A3 l3.length l3) := ⟨Kd.C_below HR310.out hB⟩
      have HY11 : Aside0 (Kd.C (Kd.int .u8) w11 A6 ys.length ys) := ⟨Kd.C_below HY10.out hB⟩
      clear hw11
      clear hB HW10 HR010 HR310 HY10 HM10 HN10
      have HRL : Aside0 (st.recs.length ≤ 9223372036854775807) := ⟨Kd.C_max HM11.out⟩
      cases t0 with
      | false =>
        have hyl : ys.length = l0.length := by rw [HYS.out]; exact putF_len HPO.out
        have hrl : (recsB l3).length ≤ 70368744177664 := by
          have h1 := recs_len l3
          have h2 := HL.out.2.2.2
          omega
        obtain ⟨rfl, rfl, rfl, rfl, rw_, re, hwa, hwb, hrw⟩ := free_end HB0.out HYB.out HO.out.symm (by rw [HYS.out]; exact HSM.out rfl) hyl HOPY.out HVY.out l3 hrl
        have HWA := Aside0.mk hwa
        have HWB := Aside0.mk hwb
        have HRW := Aside0.mk hrw
        clear hyl hrl hwa hwb hrw
        go_wp2_with fail
        refine (disk_Write.calls A0 c0 l0 A3 c3 l3 rw_ re w11 HR011.out hc0 HR311.out hc3 HWA.out).mono ?_
        rintro e w12 ⟨vv1, rfl, hRw, hB⟩
        obtain ⟨B1, d1, rfl⟩ := Kd.R_slice hRw
        have hd1 := (Kd.R_reads' hRw).2.1
        have HP1 : Aside0 (Kd.C k34 w12 B1 rw_.length rw_) := ⟨(Kd.R_reads' hRw).2.2⟩
        have HN12 : Aside0 (Kd.C k62 w12 A8 st.recs.length st.recs) := ⟨Kd.C_below HN11.out hB⟩
        have HM12 : Aside0 (Kd.C k62 w12 A7 st.recs.length st.recs) := ⟨Kd.C_below HM11.out hB⟩
        have HW12 : Aside0 (Below w.heap.size w w12) := ⟨HW11.out.trans (hB.mono HW11.out.size)⟩
        have HR012 : Aside0 (Kd.C (Kd.int .u8) w12 A0 l0.length l0) := ⟨Kd.C_below HR011.out hB⟩
        have HR312 : Aside0 (Kd.C k62 w12 A3 l3.length l3) := ⟨Kd.C_below HR311.out hB⟩
        have HY12 : Aside0 (Kd.C (Kd.int .u8) w12 A6 ys.length ys) := ⟨Kd.C_below HY11.out hB⟩
        clear hRw hB
        go_wp2_with fail
        refine (disk_Write.calls A6 c6 ys A3 c3 l3 rw_ re w12 HY12.out hc6 HR312.out hc3 HWB.out).mono ?_
        rintro e w13 ⟨vv2, rfl, hRw, hB⟩
        obtain ⟨B2, d2, rfl⟩ := Kd.R_slice hRw
        have hd2 := (Kd.R_reads' hRw).2.1
        have HP2 : Aside0 (Kd.C k34 w13 B2 rw_.length rw_) := ⟨(Kd.R_reads' hRw).2.2⟩
        have HP1c : Aside0 (Kd.C k34 w13 B1 rw_.length rw_) := ⟨Kd.C_below HP1.out hB⟩
        have HN13 : Aside0 (Kd.C k62 w13 A8 st.recs.length st.recs) := ⟨Kd.C_below HN12.out hB⟩
        have HM13 : Aside0 (Kd.C k62 w13 A7 st.recs.length st.recs) := ⟨Kd.C_below HM12.out hB⟩
        have HW13 : Aside0 (Below w.heap.size w w13) := ⟨HW12.out.trans (hB.mono HW12.out.size)⟩
        have HR013 : Aside0 (Kd.C (Kd.int .u8) w13 A0 l0.length l0) := ⟨Kd.C_below HR012.out hB⟩
        have HR313 : Aside0 (Kd.C k62 w13 A3 l3.length l3) := ⟨Kd.C_below HR312.out hB⟩
        have HY13 : Aside0 (Kd.C (Kd.int .u8) w13 A6 ys.length ys) := ⟨Kd.C_below HY12.out hB⟩
        clear hRw hB
        go_wp2_with fail
        refine (berylref20_SameRecords.calls (st.recs.length + 1) A7 c7 st.recs A8 c8 st.recs true w13 HM13.out hc7 HN13.out hc8 (same_recs st.recs HRL.out _ (Nat.lt_succ_self _))).mono ?_
        rintro e wx ⟨rfl, ⟨nx, rfl⟩⟩
        go_wp2_with fail
        refine (berylref20_SamePuts.calls 401 B1 d1 rw_ B2 d2 rw_ true _ (Kd.C_drewN HP1c.out nx) hd1 (Kd.C_drewN HP2.out nx) hd2 (same_puts rw_ (Nat.le_trans HRW.out (by decide)) _ (Nat.lt_succ_of_le HRW.out))).mono ?_
        rintro e wy ⟨rfl, ⟨ny, rfl⟩⟩
        go_wp2_with fail
        go_returns
        exact ⟨rfl, pw_below_drewN HW13.out _⟩
      | true =>
        go_wp2_with fail
        refine (beryllaw20_told.calls 11 A0 c0 l0 1 st.ver t1 w11 HR011.out hc0 HT1.out).mono ?_
        rintro e w12 ⟨rfl, ⟨nd5, rfl⟩⟩
        cases t1 with
        | true =>
          go_wp2_with fail
          go_returns
          exact ⟨rfl, pw_below_drewN HW11.out _⟩
        | false =>
          obtain ⟨w12, hw12⟩ : ∃ w12, w12 = w11.drewN nd5 := ⟨_, rfl⟩
          have hB : Below w11.heap.size w11 w12 := by rw [hw12]; exact pw_below_drewN (Below.refl _ _) _
          rw [← hw12]
          clear hw12
          have hyl : ys.length = l0.length := by rw [HYS.out]; exact putF_len HPO.out
          have hrl : (recsB l3).length ≤ 70368744177664 := by
            have h1 := recs_len l3
            have h2 := HL.out.2.2.2
            omega
          obtain ⟨rfl, rfl, rfl, rfl, rw_, re, hwa, hwb, hrw⟩ := free_end HB0.out HYB.out HO.out.symm (by rw [HYS.out]; exact HSM.out rfl) hyl HOPY.out HVY.out l3 hrl
          have HWA := Aside0.mk hwa
          have HWB := Aside0.mk hwb
          have HRW := Aside0.mk hrw
          clear hyl hrl hwa hwb hrw
          have HN12 : Aside0 (Kd.C k62 w12 A8 st.recs.length st.recs) := ⟨Kd.C_below HN11.out hB⟩
          have HM12 : Aside0 (Kd.C k62 w12 A7 st.recs.length st.recs) := ⟨Kd.C_below HM11.out hB⟩
          have HW12 : Aside0 (Below w.heap.size w w12) := ⟨HW11.out.trans (hB.mono HW11.out.size)⟩
          have HR012 : Aside0 (Kd.C (Kd.int .u8) w12 A0 l0.length l0) := ⟨Kd.C_below HR011.out hB⟩
          have HR312 : Aside0 (Kd.C k62 w12 A3 l3.length l3) := ⟨Kd.C_below HR311.out hB⟩
          have HY12 : Aside0 (Kd.C (Kd.int .u8) w12 A6 ys.length ys) := ⟨Kd.C_below HY11.out hB⟩
          clear hB
          go_wp2_with fail
          refine (disk_Write.calls A0 c0 l0 A3 c3 l3 rw_ re w12 HR012.out hc0 HR312.out hc3 HWA.out).mono ?_
          rintro e w13 ⟨vv1, rfl, hRw, hB⟩
          obtain ⟨B1, d1, rfl⟩ := Kd.R_slice hRw
          have hd1 := (Kd.R_reads' hRw).2.1
          have HP1 : Aside0 (Kd.C k34 w13 B1 rw_.length rw_) := ⟨(Kd.R_reads' hRw).2.2⟩
          have HN13 : Aside0 (Kd.C k62 w13 A8 st.recs.length st.recs) := ⟨Kd.C_below HN12.out hB⟩
          have HM13 : Aside0 (Kd.C k62 w13 A7 st.recs.length st.recs) := ⟨Kd.C_below HM12.out hB⟩
          have HW13 : Aside0 (Below w.heap.size w w13) := ⟨HW12.out.trans (hB.mono HW12.out.size)⟩
          have HR013 : Aside0 (Kd.C (Kd.int .u8) w13 A0 l0.length l0) := ⟨Kd.C_below HR012.out hB⟩
          have HR313 : Aside0 (Kd.C k62 w13 A3 l3.length l3) := ⟨Kd.C_below HR312.out hB⟩
          have HY13 : Aside0 (Kd.C (Kd.int .u8) w13 A6 ys.length ys) := ⟨Kd.C_below HY12.out hB⟩
          clear hRw hB
          go_wp2_with fail
          refine (disk_Write.calls A6 c6 ys A3 c3 l3 rw_ re w13 HY13.out hc6 HR313.out hc3 HWB.out).mono ?_
          rintro e w14 ⟨vv2, rfl, hRw, hB⟩
          obtain ⟨B2, d2, rfl⟩ := Kd.R_slice hRw
          have hd2 := (Kd.R_reads' hRw).2.1
          have HP2 : Aside0 (Kd.C k34 w14 B2 rw_.length rw_) := ⟨(Kd.R_reads' hRw).2.2⟩
          have HP1c : Aside0 (Kd.C k34 w14 B1 rw_.length rw_) := ⟨Kd.C_below HP1.out hB⟩
          have HN14 : Aside0 (Kd.C k62 w14 A8 st.recs.length st.recs) := ⟨Kd.C_below HN13.out hB⟩
          have HM14 : Aside0 (Kd.C k62 w14 A7 st.recs.length st.recs) := ⟨Kd.C_below HM13.out hB⟩
          have HW14 : Aside0 (Below w.heap.size w w14) := ⟨HW13.out.trans (hB.mono HW13.out.size)⟩
          have HR014 : Aside0 (Kd.C (Kd.int .u8) w14 A0 l0.length l0) := ⟨Kd.C_below HR013.out hB⟩
          have HR314 : Aside0 (Kd.C k62 w14 A3 l3.length l3) := ⟨Kd.C_below HR313.out hB⟩
          have HY14 : Aside0 (Kd.C (Kd.int .u8) w14 A6 ys.length ys) := ⟨Kd.C_below HY13.out hB⟩
          clear hRw hB
          go_wp2_with fail
          refine (berylref20_SameRecords.calls (st.recs.length + 1) A7 c7 st.recs A8 c8 st.recs true w14 HM14.out hc7 HN14.out hc8 (same_recs st.recs HRL.out _ (Nat.lt_succ_self _))).mono ?_
          rintro e wx ⟨rfl, ⟨nx, rfl⟩⟩
          go_wp2_with fail
          refine (berylref20_SamePuts.calls 401 B1 d1 rw_ B2 d2 rw_ true _ (Kd.C_drewN HP1c.out nx) hd1 (Kd.C_drewN HP2.out nx) hd2 (same_puts rw_ (Nat.le_trans HRW.out (by decide)) _ (Nat.lt_succ_of_le HRW.out))).mono ?_
          rintro e wy ⟨rfl, ⟨ny, rfl⟩⟩
          go_wp2_with fail
          go_returns
          exact ⟨rfl, pw_below_drewN HW14.out _⟩
end Go.Proofs.Ytcdpkdehogcjnaa.Print

namespace Go.Proofs.Ytcdpkdehogcjnaa.diskFree
open Go Go.ChangeShapes Go.WideShapes Go.ChangeAt Go.RowKit Go.Proofs.Ytcdpkdehogcjnaa.Print
open Go.Proofs.YtcdpkdehogcjnaaW.PrintWords
theorem own : ownKnob Try.prog.godebug = none := by kernel_rfl
theorem laidOut : laidOutB Try.prog = true := by kernel_rfl

theorem small {H : Type} {ts : List TypeId} {ds : List (DataW H)} (hsz : (DataW.weightsEach Try.prog ts ds).all (· ≤ reachBytes) = true) {j : Nat} {t : TypeId} {d : DataW H} (ht : ts[j]? = some t) (hd : ds[j]? = some d) : ∀ n ∈ d.weights Try.prog t, n ≤ reachBytes := by
  intro n hn
  have := List.all_eq_true.1 hsz _ (DataW.weights_mem_each ht hd n hn)
  simpa using this

theorem bytes_of (xs : List Int) (h : ∀ b ∈ xs, (Lit.int .u8 b).wf = true) : IsBytes xs := by
  intro b hb
  have := h b hb
  simp [Lit.wf, IntKind.min, IntKind.max, IntKind.signed, IntKind.bits] at this
  omega

set_option maxRecDepth 100000 in
theorem lifted (os : Os) (started : os.Started) (H : Type) (enc : TypeId × Value → H) :
    ReturnsInHanded {} Try.checked os 3 .any (Rows.diskFreeSpec.pre6 enc Try.prog Try.f3 Rows.diskFreeRow.domain false) (Rows.diskFreeSpec.post enc Try.prog Try.f3 false true false false) := by
  refine returnsInHanded_of_change_sized (C := Try.checked) own started (by kernel_rfl) Try.func3
    (ChangeSpec.witness6 (enc := enc) (C := Try.checked) false ⟨#[], #[.slice none 0 0, .int .i64 0, .slice none 0 0, .slice none 0 0], []⟩ 8 (by kernel_rfl) (by kernel_rfl) (by kernel_rfl) (by kernel_rfl)) ?_
  intro W base args ds gs before hval0 hW hcnd hsz0 _
  have hsz : (DataW.weightsEach Try.prog (Try.f3.params.toList ++ Rows.diskFreeSpec.plain.varTypes Try.prog) (ds ++ gs)).all (· ≤ reachBytes) = true := hsz0
  have hval : ∀ (j : Nat) t v, Try.f3.params[j]? = some t → args[j]? = some v → Value.okWide Try.prog W .any base t v := hval0
  have hW' := hW
  obtain ⟨p, q, hA0, hV, rfl, hfz, hnd⟩ := hW
  have hA : DataW.TrodAll enc Try.prog W 0 (fun _ => true) true Try.f3.params.toList args.toList ds p := hA0
  rw [Try.params3] at hA hval hsz
  obtain ⟨v0, vs0, d0, ds0, p0, q0, hargs, rfl, rfl, h0, r0⟩ := trodAll_cons hA
  obtain ⟨v1, vs1, d1, ds1, p1, q1, rfl, rfl, rfl, h1, r1⟩ := trodAll_cons r0
  obtain ⟨v2, vs2, d2, ds2, p2, q2, rfl, rfl, rfl, h2, r2⟩ := trodAll_cons r1
  obtain ⟨v3, vs3, d3, ds3, p3, q3, rfl, rfl, rfl, h3, r3⟩ := trodAll_cons r2
  obtain ⟨rfl, rfl, rfl⟩ := trodAll_nil r3
  obtain rfl : args = #[v0, v1, v2, v3] := by cases args; simp_all
  obtain ⟨rfl, rfl⟩ := trodVars_none hV
  obtain ⟨a0, len0, cap0, rfl⟩ := okWide_slice Try.underlying22 (hval 0 22 v0 rfl rfl)
  obtain ⟨a1, rfl, rfl, rfl, w1⟩ := open_int Try.underlying3 (hval 1 3 v1 rfl rfl) h1
  obtain ⟨a2, len2, cap2, rfl⟩ := okWide_slice Try.underlying22 (hval 2 22 v2 rfl rfl)
  obtain ⟨a3, len3, cap3, rfl⟩ := okWide_slice Try.underlying23 (hval 3 23 v3 rfl rfl)
  have k0 := h0
  have k2 := h2
  have k3 := h3
  have lt0 : ∀ x ∈ p0, x.block < W.heap.size := by obtain ⟨m, hm⟩ := k0; exact DataW.trod_lt m _ _ _ hm
  have lt2 : ∀ x ∈ p2, x.block < W.heap.size := by obtain ⟨m, hm⟩ := k2; exact DataW.trod_lt m _ _ _ hm
  have lt3 : ∀ x ∈ p3, x.block < W.heap.size := by obtain ⟨m, hm⟩ := k3; exact DataW.trod_lt m _ _ _ hm
  obtain ⟨A0, c0, l0, e0, hc0, hr0, hz0, hw0⟩ := (by obtain ⟨m, hm⟩ := h0; exact lift_bytes (v := .slice a0 len0 cap0) (by simpa [Value.cells] using hm) (small hsz (j := 0) rfl rfl) : ∃ (A : Option Addr) (c : Nat) (xs : List Int), Value.slice a0 len0 cap0 = .slice A xs.length c ∧ xs.length ≤ c ∧ Kd.C (Kd.int .u8) W A xs.length xs ∧ xs.length ≤ 140737488351232 ∧ ∀ b ∈ xs, (Lit.int .u8 b).wf = true)
  injection e0 with e00 e01 e02
  subst e00 e01 e02
  obtain ⟨A2, c2, l2, e2, hc2, hr2, hz2, hw2⟩ := (by obtain ⟨m, hm⟩ := h2; exact lift_bytes (v := .slice a2 len2 cap2) (by simpa [Value.cells] using hm) (small hsz (j := 2) rfl rfl) : ∃ (A : Option Addr) (c : Nat) (xs : List Int), Value.slice a2 len2 cap2 = .slice A xs.length c ∧ xs.length ≤ c ∧ Kd.C (Kd.int .u8) W A xs.length xs ∧ xs.length ≤ 140737488351232 ∧ ∀ b ∈ xs, (Lit.int .u8 b).wf = true)
  injection e2 with e20 e21 e22
  subst e20 e21 e22
  obtain ⟨l3, e3, hc3, hr3, hz3, hw3⟩ := lift_recs h3 (small hsz (j := 3) rfl rfl)
  subst e3
  clear hA0 hval0 hsz0 hsz
  refine (free_walk a0 cap0 l0 a1 a2 cap2 l2 a3 cap3 l3 W hr0 hc0 (bytes_of l0 hw0) hr2 hc2 (bytes_of l2 hw2) hr3 hc3 hz3 hw3).mono fun e W' ⟨he, bel⟩ => ?_
  subst he
  exact ⟨_, rfl, _, _, _, [], _, [], hW', trodAll_mk1 (shut_bool Try.underlying4 _), (trodAll_cons_mk (Below.trod laidOut (by kernel_rfl) (of_decide_eq_true (by kernel_rfl)) k0 bel lt0) (trodAll_cons_mk (shut_int Try.underlying3 w1) (trodAll_cons_mk (Below.trod laidOut (by kernel_rfl) (of_decide_eq_true (by kernel_rfl)) k2 bel lt2) (trodAll_cons_mk (Below.trod laidOut (by kernel_rfl) (of_decide_eq_true (by kernel_rfl)) k3 bel lt3) trodAll_mk0)))), rfl, bel.frame _, fun h => by cases h⟩
theorem over : Rows.diskFreeRow.holds Try.pinned (OpenSpec.ofChange Rows.diskFreeSpec) :=
  OpenClaim.holds_of_wide 3 Try.f3 rfl rfl rfl rfl rfl rfl rfl ⟨rfl, rfl, rfl, rfl, rfl⟩ rfl rfl rfl rfl rfl (by kernel_rfl) Try.func3 (by kernel_rfl)
    (of_decide_eq_true (by kernel_rfl)) (by unfold Func.isWrapper; first | (rw [if_pos (by decide +kernel)]; kernel_rfl) | (rw [if_neg (by decide +kernel)]; exact ⟨rfl, rfl⟩))
    (fun os started H enc _ => lifted os started H enc)
theorem proved : Rows.DiskFreeSaid := over
#print axioms proved
end Go.Proofs.Ytcdpkdehogcjnaa.diskFree
namespace Go.Proofs.Ytcdpkdehogcjnaa
/-- The row, under a short name, for the claim. -/
theorem diskFree_holds : Rows.DiskFreeSaid := diskFree.proved
end Go.Proofs.Ytcdpkdehogcjnaa
