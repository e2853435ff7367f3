/- DiskRoom: for every disk's bytes and every list of records the statement answers true, and both read afterwards as before; without condition. -/
import Derived.Test.YtcdpkdehogcjnaaPrint0
import Derived.Deep.SlicePairs
import Derived.SizedLaws
import Derived.WalkKit
import Derived.ProofKit
import Derived.OpenShut
import Derived.ChangeOld
import Derived.Below
import Derived.Test.YtcdpkdehogcjnaaRD
import Derived.Test.YtcdpkdehogcjnaaRB
import Derived.Test.YtcdpkdehogcjnaaR3
import Derived.Test.YtcdpkdehogcjnaaR4
import Derived.Test.YtcdpkdehogcjnaaRC
import Derived.Test.YtcdpkdehogcjnaaR5
import Derived.Test.YtcdpkdehogcjnaaRows
import Derived.ShutString
set_option linter.unusedVariables false
set_option linter.unusedSimpArgs false
/-! A parameter of records: what the row says of it, as a list. -/
namespace Go.Proofs.Ytcdpkdehogcjnaa.Print
open Go Go.ChangeShapes Go.WideShapes Go.ChangeAt Go.RowKit Go.Deep Go.Proofs.YtcdpkdehogcjnaaW.PrintWords Go.Proofs.YtcdpkdehogcjnaaW.PrintLast Go.Proofs.YtcdpkdehogcjnaaW.PrintMore

/-- what is asked of a record -/
def RecFits (x : S62) : Prop := (Lit.int .i64 x.f0).wf = true ∧ x.f1.length ≤ 140737488351232 ∧ ∀ b ∈ x.f1, (Lit.int .u8 b).wf = true

theorem weights_all {H : Type} {P : Program} {e : TypeId} : ∀ {l : List (DataW H)} {d : DataW H}, d ∈ l → ∀ n ∈ d.weights P e, n ∈ DataW.weightsAll P e l
  | [], _, h, _, _ => by cases h
  | a :: l, d, h, n, hn => by
    rw [DataW.weightsAll, List.mem_append]
    rcases List.mem_cons.1 h with rfl | h
    · exact .inl hn
    · exact .inr (weights_all h n hn)

section
variable {H : Type} {enc : TypeId × Value → H} {W : World} {held : Bool}

set_option maxRecDepth 100000 in
theorem lift_bytes {fuel : Nat} {v : Value} {d : DataW H} {ps : List MemPlace} (h : DataW.trod enc Try.prog W 0 (fun _ => true) held fuel 22 [v] = some (d, ps)) (hz : ∀ n ∈ d.weights Try.prog 22, n ≤ reachBytes) :
    ∃ (A : Option Addr) (c : Nat) (xs : List Int), v = .slice A xs.length c ∧ xs.length ≤ c ∧ Kd.C (Kd.int .u8) W A xs.length xs ∧ xs.length ≤ 140737488351232 ∧ ∀ b ∈ xs, (Lit.int .u8 b).wf = true := by
  rcases open_ints Try.underlying22 Try.underlying5 (by kernel_rfl) h with ⟨hcs, _⟩ | ⟨a, len, cap, zs, hcs, _, hl, hm, hzl, hx, hcell, hwf⟩
  · cases hcs
    exact ⟨none, 0, [], rfl, Nat.le_refl _, Kd.C_nil _ _, by simp, by simp⟩
  · cases hcs
    simp only [if_true] at hzl
    obtain ⟨hd, _⟩ := Prod.mk.inj hx
    subst hd
    have hlen : (zs.take len).length = len := by simp; omega
    have hw := hz ((lits (H := H) .u8 (zs.take len)).length + (lits (H := H) .u8 (zs.drop len)).length |>.mul (Try.prog.bytesOf 5)) (by
      rw [DataW.weights, Try.underlying22]
      exact List.mem_cons_self ..)
    rw [show Try.prog.bytesOf 5 = 1 from by kernel_rfl] at hw
    have hw2 : zs.length ≤ reachBytes := by
      simp [lits] at hw
      omega
    refine ⟨some a, cap, zs.take len, by rw [hlen], by omega, ?_, by rw [hlen]; unfold reachBytes at hw2; omega, fun b hb => hwf b (List.mem_of_mem_take hb)⟩
    rw [hlen]
    refine ⟨hlen, by unfold maxLen at hm; omega, fun _ => ⟨a, rfl, fun j p hj => ⟨[.int .u8 p], rfl, rfl, fun i u hu => ?_⟩⟩⟩
    cases i with
    | succ i => simp at hu
    | zero =>
      simp at hu
      subst hu
      show W.cell? (a.add (j * 1 + 0)) = _
      rw [Nat.mul_one, Nat.add_zero]
      have h1 : zs[j]? = some p := by
        rw [List.getElem?_take] at hj
        split at hj
        · exact hj
        · cases hj
      have h2 := hcell j (List.getElem?_eq_some_iff.1 h1).1
      rw [List.getD_eq_getElem?_getD, h1] at h2
      exact h2

set_option maxRecDepth 100000 in
theorem lift_recs {a : Option Addr} {len cap : Nat} {d : DataW H} {ps : List MemPlace} (h : DataW.Trod enc Try.prog W 0 (fun _ => true) held 23 (.slice a len cap) d ps) (hz : ∀ n ∈ d.weights Try.prog 23, n ≤ reachBytes) :
    ∃ l : List S62, l.length = len ∧ len ≤ cap ∧ Kd.C k62 W a len l ∧ len * 32 ≤ 140737488351232 ∧ ∀ x ∈ l, RecFits x := by
  obtain ⟨fuel, hf⟩ := h
  rcases open_slice_pairs Try.underlying23 Try.underlying62 (by kernel_rfl) rfl rfl (by kernel_rfl) (by kernel_rfl) hf with ⟨hcs, _⟩ | ⟨x, l', c', m, n, V0, V1, D0, D1, P0, P1, hcs, _, hl, hm, hmm, hx, hcell⟩
  · simp [Value.cells] at hcs
    obtain ⟨rfl, rfl, rfl⟩ := hcs
    exact ⟨[], rfl, Nat.le_refl _, Kd.C_nil _ _, by simp, by simp⟩
  · simp [Value.cells] at hcs
    obtain ⟨rfl, rfl, rfl⟩ := hcs
    simp only [if_true] at hmm
    subst hmm
    obtain ⟨hd, _⟩ := Prod.mk.inj hx
    subst hd
    rw [DataW.weights, Try.underlying23] at hz
    have hsz := hz _ (List.mem_cons_self ..)
    rw [show Try.prog.bytesOf 62 = 32 from by kernel_rfl] at hsz
    simp at hsz
    have each : ∀ i, i < len → ∃ y : S62 × Option Addr × Nat, V0 i = .int .i64 y.1.f0 ∧ V1 i = .slice y.2.1 y.1.f1.length y.2.2 ∧ y.1.f1.length ≤ y.2.2 ∧ Kd.C (Kd.int .u8) W y.2.1 y.1.f1.length y.1.f1 ∧ RecFits y.1 := by
      intro i hi
      obtain ⟨_, _, g0, g1⟩ := hcell i (by omega)
      obtain ⟨z, hz0, hz1, hzw⟩ := DataW.trod_int Try.underlying3 g0
      have hw1 : ∀ n ∈ (D1 i).weights Try.prog 22, n ≤ reachBytes := by
        intro n hn
        refine hz n (List.mem_cons_of_mem _ (List.mem_append_left _ (weights_all (d := .agg [D0 i, D1 i]) (List.mem_map.2 ⟨i, List.mem_range.2 hi, rfl⟩) n ?_)))
        rw [DataW.weights, Try.underlying62]
        show n ∈ DataW.weightsEach Try.prog [3, 22] [D0 i, D1 i]
        simp [DataW.weightsEach, hn]
      obtain ⟨A1, c1, xs, hv, hc1, hC, hsz1, hwf⟩ := lift_bytes g1 hw1
      refine ⟨(⟨z, xs⟩, A1, c1), by simpa using hz0, hv, hc1, hC, hzw, hsz1, hwf⟩
    haveI : Inhabited (S62 × Option Addr × Nat) := ⟨(⟨0, []⟩, none, 0)⟩
    obtain ⟨y, hy⟩ := choose_lt each
    refine ⟨(List.range len).map fun i => (y i).1, by simp, hl, ⟨by simp, by unfold maxLen at hm; omega, fun _ => ⟨x, rfl, fun j p hj => ?_⟩⟩, by unfold reachBytes at hsz; omega, fun q hq => ?_⟩
    · rw [List.getElem?_map] at hj
      obtain ⟨i, hi, rfl⟩ := Option.map_eq_some_iff.1 hj
      obtain ⟨hjl, hji⟩ := List.getElem?_eq_some_iff.1 hi
      simp at hjl hji
      subst hji
      obtain ⟨e0, e1, e2, e3, e4⟩ := hy j hjl
      obtain ⟨q0, q1, _, _⟩ := hcell j (by omega)
      refine ⟨_, rfl, k62_mk W (y j).1 e2 e3, fun i u hu => ?_⟩
      match i, hu with
      | 0, hu =>
        simp at hu
        subst hu
        rw [e0] at q0
        exact q0
      | 1, hu =>
        simp at hu
        subst hu
        rw [e1] at q1
        exact q1
    · obtain ⟨i, hi, rfl⟩ := List.mem_map.1 hq
      exact (hy i (List.mem_range.1 hi)).2.2.2.2
end
end Go.Proofs.Ytcdpkdehogcjnaa.Print

/-! plain facts that several laws of the disk want -/
namespace Go.Proofs.Ytcdpkdehogcjnaa.Print
open Go Go.RowKit Go.Proofs.YtcdpkdehogcjnaaW.PrintWords Go.Proofs.YtcdpkdehogcjnaaW.PrintLast Go.Proofs.YtcdpkdehogcjnaaW.PrintMore

def totN : List S62 → Nat
  | [] => 0
  | r :: l => r.f1.length + totN l
theorem tot_step (l : List S62) (i : Nat) (h : i < l.length) : totN (l.drop i) = l[i].f1.length + totN (l.drop (i + 1)) := by
  rw [List.drop_eq_getElem_cons h, totN]
theorem recs_len : ∀ l : List S62, (recsB l).length = 10 * l.length + totN l
  | [] => rfl
  | r :: l => by
    rw [recsB_cons, List.length_append, recB_len, recs_len l, totN, List.length_cons]
    omega
theorem tot_le {l : List S62} {B : Nat} (h : ∀ x ∈ l, x.f1.length ≤ B) : totN l ≤ l.length * B := by
  induction l with
  | nil => simp [totN]
  | cons r l ih =>
    have h1 := h r (List.mem_cons_self ..)
    have h2 := ih (fun x hx => h x (List.mem_cons_of_mem _ hx))
    rw [totN, List.length_cons, Nat.add_mul]
    omega
theorem few_far (xs : List Int) (l : List S62) (hl : l.length ≤ 4398046511104) (h3 : 300 < l.length) : ∀ (m i k : Nat) (acc : Int), i + m = l.length → m < k → beryllaw20_few.l0 k xs l acc (i : Int) = some false := by
  intro m
  induction m with
  | zero =>
    intro i k acc hi hk
    obtain ⟨k, rfl⟩ : ∃ j, k = j + 1 := ⟨k - 1, by omega⟩
    rw [beryllaw20_few.l0, if_neg (by omega)]
    split
    · rw [if_neg (by omega)]
    · rfl
  | succ m ih =>
    intro i k acc hi hk
    obtain ⟨k, rfl⟩ : ∃ j, k = j + 1 := ⟨k - 1, by omega⟩
    have e2 : wrap64 ((i : Int) + 1) = ((i + 1 : Nat) : Int) := by unfold wrap64; omega
    rw [beryllaw20_few.l0, if_pos (by omega), if_pos (by omega), e2]
    exact ih (i + 1) k _ (by omega) (by omega)
theorem few_near (xs : List Int) (l : List S62) (hl : l.length ≤ 300) (hB : ∀ x ∈ l, x.f1.length ≤ 140737488351232) : ∀ (m i k acc : Nat), i + m = l.length → m < k → acc + totN (l.drop i) ≤ 42221246505369600 →
    beryllaw20_few.l0 k xs l (acc : Int) (i : Int) = some (decide (xs.length ≤ 17000) && decide (acc + totN (l.drop i) ≤ 20000)) := by
  intro m
  induction m with
  | zero =>
    intro i k acc hi hk hs
    obtain ⟨k, rfl⟩ : ∃ j, k = j + 1 := ⟨k - 1, by omega⟩
    rw [beryllaw20_few.l0, if_neg (by omega), List.drop_of_length_le (by omega), totN]
    by_cases h1 : xs.length ≤ 17000
    · rw [if_pos (by omega), if_pos (by omega)]
      simp [h1]
      omega
    · rw [if_neg (by omega)]
      simp [h1]
  | succ m ih =>
    intro i k acc hi hk hs
    obtain ⟨k, rfl⟩ : ∃ j, k = j + 1 := ⟨k - 1, by omega⟩
    have hlt : i < l.length := by omega
    have e2 : wrap64 ((i : Int) + 1) = ((i + 1 : Nat) : Int) := by unfold wrap64; omega
    rw [tot_step l i hlt] at hs ⊢
    have e3 : wrap64 ((acc : Int) + (l[i].f1.length : Int)) = ((acc + l[i].f1.length : Nat) : Int) := by unfold wrap64; omega
    rw [beryllaw20_few.l0, if_pos (by omega), if_pos (by omega), e2, rdP l i hlt, e3, ih (i + 1) k (acc + l[i].f1.length) (by omega) (by omega) (by omega)]
    rw [Nat.add_assoc]
theorem few_f (xs : List Int) (l : List S62) (hl : l.length * 32 ≤ 140737488351232) (hB : ∀ x ∈ l, RecFits x) :
    ∃ b : Bool, (∀ k, l.length < k → beryllaw20_few.f k xs l = some b) ∧ (b = true → xs.length ≤ 17000 ∧ l.length ≤ 300 ∧ totN l ≤ 20000) := by
  by_cases h3 : l.length ≤ 300
  · have ht := tot_le (fun x hx => (hB x hx).2.1)
    have ht2 : totN l ≤ 42221246505369600 := Nat.le_trans ht (by omega)
    refine ⟨decide (xs.length ≤ 17000) && decide (totN l ≤ 20000), fun k hk => ?_, fun h => ?_⟩
    · have := few_near xs l h3 (fun x hx => (hB x hx).2.1) l.length 0 k 0 (by omega) hk (by simpa using ht2)
      simpa [beryllaw20_few.f] using this
    · simp at h
      exact ⟨h.1, h3, h.2⟩
  · refine ⟨false, fun k hk => ?_, fun h => by cases h⟩
    exact few_far xs l (by omega) (by omega) l.length 0 k 0 (by omega) hk
theorem asked_k (l : List S62) (hl : l.length ≤ 9223372036854775807) (k : Nat) (hk : l.length < k) : disk_asked.f k l = some (askedF l) :=
  mono_to (f := fun k => disk_asked.f k l) (fun k => disk_asked.mono l k) (asked_f l hl) k hk
theorem bytes_k (l : List S62) (hl : l.length ≤ 9223372036854775807) (hb : (recsB l).length ≤ 70368744177664) (k : Nat) (hk : l.length + 10 ≤ k) : disk_Bytes.f k l = some (if askedF l = 0 then (((recsB l).length : Int), 0) else (0, askedF l)) := by
  have h2 : disk_bytesOf.f k l = some (recsB l) := mono_to (f := fun k => disk_bytesOf.f k l) (fun k => disk_bytesOf.mono l k) (bytesOf_f l hl hb) k hk
  unfold disk_Bytes.f
  rw [asked_k l hl k (by omega), Option.bind_some, h2, Option.bind_some]
  split <;> rfl
theorem has_l0 (xs : List Int) (hl : xs.length ≤ 4398046511104) (n : Int) : ∀ (m i k : Nat), i + m = xs.length → m < k → beryllaw20_has.l0 k xs n (i : Int) = some (decide (n ∈ xs.drop i)) := by
  intro m
  induction m with
  | zero =>
    intro i k hi hk
    obtain ⟨k, rfl⟩ : ∃ j, k = j + 1 := ⟨k - 1, by omega⟩
    rw [beryllaw20_has.l0, if_neg (by omega), List.drop_of_length_le (by omega)]
    simp
  | succ m ih =>
    intro i k hi hk
    obtain ⟨k, rfl⟩ : ∃ j, k = j + 1 := ⟨k - 1, by omega⟩
    have hlt : i < xs.length := by omega
    have e2 : wrap64 ((i : Int) + 1) = ((i + 1 : Nat) : Int) := by unfold wrap64; omega
    have er : rd xs (i : Int) = xs[i] := by simp [rd, List.getD_eq_getElem?_getD, List.getElem?_eq_getElem hlt]
    rw [beryllaw20_has.l0, if_pos (by omega), if_pos (by omega), e2, er, List.drop_eq_getElem_cons hlt]
    by_cases h : xs[i] = n
    · rw [if_pos h]
      simp [h]
    · rw [if_neg h, ih (i + 1) k (by omega) (by omega)]
      exact congrArg some (decide_eq_decide.2 ⟨fun h' => List.mem_cons_of_mem _ h', fun h' => (List.mem_cons.1 h').resolve_left (fun e => h e.symm)⟩)
theorem has_f (xs : List Int) (hl : xs.length ≤ 4398046511104) (n : Int) (k : Nat) (hk : xs.length < k) : beryllaw20_has.f k xs n = some (decide (n ∈ xs)) := by
  have := has_l0 xs hl n xs.length 0 k (by omega) hk
  simpa [beryllaw20_has.f] using this
end Go.Proofs.Ytcdpkdehogcjnaa.Print

/-! DiskRoom, in plain Lean: what it computes answers true. -/
namespace Go.Proofs.Ytcdpkdehogcjnaa.Print
open Go Go.RowKit Go.Proofs.YtcdpkdehogcjnaaW.PrintWords Go.Proofs.YtcdpkdehogcjnaaW.PrintLast Go.Proofs.YtcdpkdehogcjnaaW.PrintMore

theorem rdW (l : List S34) (i : Nat) (h : i < l.length) : rd_T34 l (i : Int) = l[i] := by
  unfold rd_T34
  simp [List.getD_eq_getElem?_getD, List.getElem?_eq_getElem h]
theorem room_loop (fr : List Int) (ws : List S34) (hf : fr.length ≤ 300) (hw : ws.length ≤ 1000) (h64 : ∀ (i : Nat) (h : i < ws.length), ws[i].f1.length = 64)
    (hin : ∀ (i : Nat) (h : i < ws.length), i + 1 < ws.length → ws[i].f0 ∈ fr) (hlast : ∀ (i : Nat) (h : i < ws.length), i + 1 = ws.length → 0 ≤ ws[i].f0 ∧ ws[i].f0 ≤ 1) :
    ∀ (m i k : Nat), i + m = ws.length → m + 400 < k → beryllaw20_DiskRoom.l0 k true fr ws (i : Int) = some true := by
  intro m
  induction m with
  | zero =>
    intro i k hi hk
    obtain ⟨k, rfl⟩ : ∃ j, k = j + 1 := ⟨k - 1, by omega⟩
    rw [beryllaw20_DiskRoom.l0, if_neg (by omega)]
  | succ m ih =>
    intro i k hi hk
    obtain ⟨k, rfl⟩ : ∃ j, k = j + 1 := ⟨k - 1, by omega⟩
    have hlt : i < ws.length := by omega
    have e2 : wrap64 ((i : Int) + 1) = ((i + 1 : Nat) : Int) := by unfold wrap64; omega
    have e3 : wrap64 ((ws.length : Int) - 1) = (ws.length : Int) - 1 := by unfold wrap64; omega
    have ih2 := ih (i + 1) k (by omega) (by omega)
    rw [beryllaw20_DiskRoom.l0, if_pos (by omega), if_pos (by omega), rdW ws i hlt, h64 i hlt, e2, e3, ih2]
    rw [if_pos (by rfl)]
    by_cases hl : i + 1 = ws.length
    · obtain ⟨h0, h1⟩ := hlast i hlt hl
      rw [if_pos (by omega), if_neg (by omega), if_neg (by omega), if_pos (by omega)]
    · rw [if_neg (by omega), if_neg (by omega), has_f fr (by omega) _ k (by omega), Option.bind_some]
      simp [hin i hlt (by omega)]

theorem bl (nb : Nat) (h8 : 8 ≤ nb) (h256 : nb ≤ 256) : disk_blocksAre.f (nb : Int) = some true := by
  have h : (8 : Int) ≤ (nb : Int) ∧ (nb : Int) ≤ 256 := ⟨by omega, by omega⟩
  rw [blocks_f]
  exact congrArg some (decide_eq_true h)
theorem roomF (nb : Nat) (h8 : 8 ≤ nb) (h256 : nb ≤ 256) : disk_Room.f (nb : Int) = some ((roomN nb : Int), 0) := by
  unfold disk_Room.f
  rw [bl nb h8 h256, Option.bind_some]
  simp only [if_true]
  rw [room_f nb h8 h256]
  rfl

theorem w_id (x : Int) (h0 : 0 ≤ x) (h1 : x ≤ 1000000) : wrap64 x = x := by
  unfold wrap64
  omega
theorem t62 (x : Nat) : Int.tdiv ((62 * x : Nat) : Int) 62 = (x : Int) := by
  rw [Int.tdiv_eq_ediv_of_nonneg (Int.natCast_nonneg _)]
  omega
theorem room62 (nb : Nat) (h256 : nb ≤ 256) : wrap64 (Int.tdiv ((roomN nb : Int)) 62) = (((nb - 2) / 2 : Nat) : Int) := by
  unfold roomN
  rw [t62]
  exact w_id _ (Int.natCast_nonneg _) (by omega)
theorem count62 (b M : Nat) (hb : b ≤ 23000) (hM : M = (b + 61) / 62) : ((M + 1 : Nat) : Int) = wrap64 (wrap64 (Int.tdiv (wrap64 ((b : Int) + 61)) 62) + 1) := by
  have hm : M ≤ 400 := by omega
  have e4 : ((b : Int) + 61) / 62 = (M : Int) := by omega
  have e1 := w_id ((b : Int) + 61) (by omega) (by omega)
  have e2 : Int.tdiv ((b : Int) + 61) 62 = (M : Int) := (Int.tdiv_eq_ediv_of_nonneg (by omega)).trans e4
  have e3 := w_id (M : Int) (by omega) (by omega)
  have e5 := w_id ((M : Int) + 1) (by omega) (by omega)
  rw [e1, e2, e3, e5]
  exact Int.natCast_succ M

theorem half_le (nb u f : Nat) (h1 : nb - 2 ≤ f + u) (h2 : u ≤ (nb - 2) / 2) : (nb - 2) / 2 ≤ f := by omega
theorem room_tail (n : Nat) (hn : 1990 ≤ n) (ak : Int) (hak : ak = 0 ∨ ak = 1) (bs fr : List Int) (rm j : Nat) (ver : Int) (hb : bs.length ≤ 23000) (hfr : fr.length ≤ 300) (hj1 : j ≤ 1) (hroom : bs.length ≤ rm → (bs.length + 61) / 62 ≤ fr.length)
    (ok : Bool) (hok : ok = (decide (bs.length ≤ rm) && decide (ver < 1099511627776))) :
    (if (if ak = 0 then ((bs.length : Int), (0 : Int)) else (0, ak)).snd = 0 then
      if (if ak = 0 then ((bs.length : Int), (0 : Int)) else (0, ak)).fst > (rm : Int) then
        beryllaw20_DiskRoom.j2 (n + 3) true (if ak = 0 then ((bs.length : Int), (0 : Int)) else (0, ak)).fst fr (if ak = 0 then (if ok then (writesF j ver fr bs, 0) else ([], 2)) else ([], ak)).fst (if ak = 0 then (if ok then (writesF j ver fr bs, 0) else ([], 2)) else ([], ak)).snd true
      else
        beryllaw20_DiskRoom.j2 (n + 3) true (if ak = 0 then ((bs.length : Int), (0 : Int)) else (0, ak)).fst fr (if ak = 0 then (if ok then (writesF j ver fr bs, 0) else ([], 2)) else ([], ak)).fst (if ak = 0 then (if ok then (writesF j ver fr bs, 0) else ([], 2)) else ([], ak)).snd (decide (ver ≥ 1099511627776))
    else
      if true = true then some ((if ak = 0 then (if ok then (writesF j ver fr bs, 0) else ([], 2)) else ([], ak)).snd == 1) else some false) = some true := by
  rcases hak with rfl | rfl
  · simp only [if_true]
    cases ok with
    | false =>
      simp only [Bool.false_eq_true, if_false]
      have hj : beryllaw20_DiskRoom.j2 (n + 3) true (bs.length : Int) fr [] 2 true = some true := by
        rw [beryllaw20_DiskRoom.j2]
        rfl
      by_cases hgt : (bs.length : Int) > (rm : Int)
      · rw [if_pos hgt]
        exact hj
      · rw [if_neg hgt]
        have hv : ver ≥ 1099511627776 := by
          have h1 := hok.symm
          rw [decide_eq_true (show bs.length ≤ rm by omega), Bool.true_and, decide_eq_false_iff_not] at h1
          omega
        rw [decide_eq_true hv]
        exact hj
    | true =>
      simp only [if_true]
      have h1 := hok.symm
      rw [Bool.and_eq_true, decide_eq_true_eq, decide_eq_true_eq] at h1
      obtain ⟨h1, h2⟩ := h1
      obtain ⟨M, hM⟩ : ∃ M, M = (bs.length + 61) / 62 := ⟨_, rfl⟩
      have hMl : M ≤ fr.length := by rw [hM]; exact hroom h1
      have hwl : (writesF j ver fr bs).length = M + 1 := by
        unfold writesF
        rw [List.length_append, writesL_len, ← hM]
        rfl
      have hat : ∀ i, i < M → (writesF j ver fr bs)[i]? = some (putAt (fr.take M ++ [0]) bs i) := by
        intro i hi
        unfold writesF
        rw [← hM, List.getElem?_append_left (by rw [writesL_len]; exact hi), writesL, List.getElem?_map, List.getElem?_range hi]
        rfl
      have hend : ((writesF j ver fr bs)[M]?).map (fun p => (p.f0, p.f1.length)) = some (1 - (j : Int), 64) := by
        unfold writesF
        rw [← hM, List.getElem?_append_right (by rw [writesL_len]; exact Nat.le_refl _), writesL_len, Nat.sub_self]
        simp [headB, wordL, longL]
      have hcount := count62 bs.length M hb hM
      rw [if_neg (by omega), decide_eq_false (by omega), beryllaw20_DiskRoom.j2, if_neg (by simp)]
      simp only [if_true]
      rw [show (((writesF j ver fr bs).length : Int) != wrap64 (wrap64 (Int.tdiv (wrap64 ((bs.length : Int) + 61)) 62) + 1)) = false from by rw [hwl, hcount]; simp, beryllaw20_DiskRoom.j3, if_neg (by simp)]
      clear hcount hok hroom
      generalize writesF j ver fr bs = ws at hwl hat hend ⊢
      have hM1 : M ≤ 400 := by omega
      obtain ⟨pe, hpe, hpe2⟩ := Option.map_eq_some_iff.1 hend
      obtain ⟨hpa, hpb⟩ := Prod.mk.inj hpe2
      have hgo := room_loop fr ws hfr (by omega) (fun i h => ?_) (fun i h hi => ?_) (fun i h hi => ?_) (M + 1) 0 (n + 1) (by omega) (by omega)
      · exact hgo
      · by_cases hi : i < M
        · rw [(List.getElem?_eq_some_iff.1 (hat i hi)).2]
          exact putAt_len _ _ _
        · have him : i = M := by omega
          subst him
          rw [(List.getElem?_eq_some_iff.1 hpe).2]
          exact hpb
      · have hi' : i < M := by omega
        rw [(List.getElem?_eq_some_iff.1 (hat i hi')).2]
        show (fr.take M ++ [0]).getD i 0 ∈ _
        have hg : (fr.take M ++ [0])[i]? = fr[i]? := by
          rw [List.getElem?_append_left (by simp; omega), List.getElem?_take, if_pos hi']
        rw [List.getD_eq_getElem?_getD, hg, List.getElem?_eq_getElem (show i < fr.length by omega)]
        exact List.getElem_mem _
      · have him : i = M := by omega
        subst him
        rw [(List.getElem?_eq_some_iff.1 hpe).2, hpa]
        omega
  · rfl

theorem askedF_vals (l : List S62) : askedF l = 0 ∨ askedF l = 1 := asked_vals l none
theorem wo (nb : Nat) (v : Int) (bs : List Int) : writesOk nb v bs = (decide (bs.length ≤ roomN nb) && decide (v < 1099511627776)) := by unfold writesOk; rfl
theorem room_free {u : List Nat} {nb : Nat} (h8 : 8 ≤ nb) (hu : u.length ≤ (nb - 2) / 2) (bs : List Int) : bs.length ≤ roomN nb → (bs.length + 61) / 62 ≤ (freeL u 2 (nb - 2)).length := fun h => free_room h8 hu h

theorem room_law (l0 : List Int) (l1 : List S62) (hb : IsBytes l0) (hl : l1.length * 32 ≤ 140737488351232) (hB : ∀ x ∈ l1, RecFits x) : ∃ k, beryllaw20_DiskRoom.f k l0 l1 = some true := by
  obtain ⟨b, hfew, hbnd⟩ := few_f l0 l1 hl hB
  obtain ⟨n, hn⟩ : ∃ n, n = l1.length + 1990 := ⟨_, rfl⟩
  have hn1 : 1990 ≤ n := by omega
  refine ⟨n + 5, ?_⟩
  have hlm : l1.length ≤ 9223372036854775807 := by omega
  unfold beryllaw20_DiskRoom.f beryllaw20_awake.f
  rw [Option.bind_some, hfew _ (by omega), Option.bind_some]
  cases b with
  | false =>
    rw [if_neg (by simp), beryllaw20_DiskRoom.j0, if_pos rfl]
  | true =>
    obtain ⟨hd, h300, htot⟩ := hbnd rfl
    have hrl := recs_len l1
    have hrb : (recsB l1).length ≤ 23000 := by omega
    rw [if_pos rfl]
    have hck : disk_Check.f l0 = some (match diskF l0 with | none => 200 | some _ => 0) := by unfold disk_Check.f; rw [if_pos hb]; rfl
    rw [hck, Option.bind_some, beryllaw20_DiskRoom.j0]
    obtain ⟨o, ho⟩ : ∃ o, o = diskF l0 := ⟨_, rfl⟩
    rw [← ho]
    cases o with
    | none => rw [if_pos (by rfl)]
    | some q =>
      obtain ⟨j, st⟩ := q
      obtain ⟨e64, h8, h256, hj1, _, hv1, hv2, hu⟩ := disk_facts ho.symm
      rw [if_neg (by simp)]
      obtain ⟨nb, hnb⟩ : ∃ nb, nb = l0.length / 64 := ⟨_, rfl⟩
      rw [← hnb] at e64 h8 h256 hu
      have e1 : wrap64 ((l0.length : Int) / 64) = (nb : Int) := by unfold wrap64; omega
      have hnb3 : nb - 2 ≤ 300 := Nat.le_trans (Nat.sub_le _ _) (Nat.le_trans h256 (by decide))
      have hroom := roomF nb h8 h256
      have hfree : disk_Free.f l0 = some (freeL st.used 2 (nb - 2), 0) := by
        unfold disk_Free.f
        rw [if_pos hb, ← ho, hnb]
      have hver : disk_Version.f l0 = some (st.ver, 0) := by
        unfold disk_Version.f
        rw [if_pos hb, ← ho]
      have hwr : disk_Write.f l0 l1 = some (if askedF l1 = 0 then changeR l0 j st l1 else ([], askedF l1)) := by
        unfold disk_Write.f writeR
        rw [if_pos ⟨hb, by omega⟩, ← ho]
      have hfl : (freeL st.used 2 (nb - 2)).length ≤ nb - 2 := freeL_len _ _ _
      have hfm := free_many st.used (nb - 2) 2
      rw [e1, hroom, Option.bind_some, bytes_k l1 hlm (by omega) _ (by omega), Option.bind_some, hfree, Option.bind_some, hver, Option.bind_some, hwr, Option.bind_some]
      simp only [if_true]
      have hr62 := room62 nb h256
      have hge : (nb - 2) / 2 ≤ (freeL st.used 2 (nb - 2)).length := half_le _ _ _ hfm hu
      have hdec : decide (((freeL st.used 2 (nb - 2)).length : Int) < wrap64 (Int.tdiv ((roomN nb : Int)) 62)) = false := by
        rw [hr62]
        exact decide_eq_false (Int.not_lt.2 (Int.ofNat_le.2 hge))
      rw [hdec, beryllaw20_DiskRoom.j1, if_neg (by simp)]
      have hch : changeR l0 j st l1 = if writesOk nb st.ver (recsB l1) then (writesF j st.ver (freeL st.used 2 (nb - 2)) (recsB l1), 0) else ([], 2) := by unfold changeR; rw [← hnb]
      rw [hch]
      have hwo := wo nb st.ver (recsB l1)
      have q1 := askedF_vals l1
      have q2 : (freeL st.used 2 (nb - 2)).length ≤ 300 := Nat.le_trans hfl hnb3
      have q3 := room_free h8 hu (recsB l1)
      generalize recsB l1 = bs at hwo q3 hrb ⊢
      generalize askedF l1 = ak at q1 ⊢
      generalize freeL st.used 2 (nb - 2) = fr at q2 q3 ⊢
      generalize writesOk nb st.ver bs = ok at hwo ⊢
      generalize roomN nb = rm at hwo q3 ⊢
      exact room_tail n hn1 ak q1 bs fr rm j st.ver hrb q2 hj1 q3 ok hwo
end Go.Proofs.Ytcdpkdehogcjnaa.Print

namespace Go.Proofs.Ytcdpkdehogcjnaa.diskRoom
open Go Go.ChangeShapes Go.WideShapes Go.ChangeAt Go.RowKit Go.Proofs.Ytcdpkdehogcjnaa.Print
open Go.Proofs.YtcdpkdehogcjnaaW.PrintWords
theorem own : ownKnob Try.prog.godebug = none := by kernel_rfl
theorem laidOut : laidOutB Try.prog = true := by kernel_rfl

theorem small {H : Type} {ts : List TypeId} {ds : List (DataW H)} (hsz : (DataW.weightsEach Try.prog ts ds).all (· ≤ reachBytes) = true) {j : Nat} {t : TypeId} {d : DataW H} (ht : ts[j]? = some t) (hd : ds[j]? = some d) : ∀ n ∈ d.weights Try.prog t, n ≤ reachBytes := by
  intro n hn
  have := List.all_eq_true.1 hsz _ (DataW.weights_mem_each ht hd n hn)
  simpa using this

theorem bytes_of (xs : List Int) (h : ∀ b ∈ xs, (Lit.int .u8 b).wf = true) : IsBytes xs := by
  intro b hb
  have := h b hb
  simp [Lit.wf, IntKind.min, IntKind.max, IntKind.signed, IntKind.bits] at this
  omega

set_option maxRecDepth 100000 in
theorem lifted (os : Os) (started : os.Started) (H : Type) (enc : TypeId × Value → H) :
    ReturnsInHanded {} Try.checked os 4 .any (Rows.diskRoomSpec.pre6 enc Try.prog Try.f4 Rows.diskRoomRow.domain false) (Rows.diskRoomSpec.post enc Try.prog Try.f4 false true false false) := by
  refine returnsInHanded_of_change_sized (C := Try.checked) own started (by kernel_rfl) Try.func4
    (ChangeSpec.witness6 (enc := enc) (C := Try.checked) false ⟨#[], #[.slice none 0 0, .slice none 0 0], []⟩ 8 (by kernel_rfl) (by kernel_rfl) (by kernel_rfl) (by kernel_rfl)) ?_
  intro W base args ds gs before hval0 hW hcnd hsz0 _
  have hsz : (DataW.weightsEach Try.prog (Try.f4.params.toList ++ Rows.diskRoomSpec.plain.varTypes Try.prog) (ds ++ gs)).all (· ≤ reachBytes) = true := hsz0
  have hval : ∀ (j : Nat) t v, Try.f4.params[j]? = some t → args[j]? = some v → Value.okWide Try.prog W .any base t v := hval0
  have hW' := hW
  obtain ⟨p, q, hA0, hV, rfl, hfz, hnd⟩ := hW
  have hA : DataW.TrodAll enc Try.prog W 0 (fun _ => true) true Try.f4.params.toList args.toList ds p := hA0
  rw [Try.params4] at hA hval hsz
  obtain ⟨v0, vs0, d0, ds0, p0, q0, hargs, rfl, rfl, h0, r0⟩ := trodAll_cons hA
  obtain ⟨v1, vs1, d1, ds1, p1, q1, rfl, rfl, rfl, h1, r1⟩ := trodAll_cons r0
  obtain ⟨rfl, rfl, rfl⟩ := trodAll_nil r1
  obtain rfl : args = #[v0, v1] := by cases args; simp_all
  obtain ⟨rfl, rfl⟩ := trodVars_none hV
  obtain ⟨a0, len0, cap0, rfl⟩ := okWide_slice Try.underlying22 (hval 0 22 v0 rfl rfl)
  obtain ⟨a1, len1, cap1, rfl⟩ := okWide_slice Try.underlying23 (hval 1 23 v1 rfl rfl)
  have k0 := h0
  have k1 := h1
  have lt0 : ∀ x ∈ p0, x.block < W.heap.size := by obtain ⟨m, hm⟩ := k0; exact DataW.trod_lt m _ _ _ hm
  have lt1 : ∀ x ∈ p1, x.block < W.heap.size := by obtain ⟨m, hm⟩ := k1; exact DataW.trod_lt m _ _ _ hm
  obtain ⟨A0, c0, l0, e0, hc0, hr0, hz0, hw0⟩ := (by obtain ⟨m, hm⟩ := h0; exact lift_bytes (v := .slice a0 len0 cap0) (by simpa [Value.cells] using hm) (small hsz (j := 0) rfl rfl) : ∃ (A : Option Addr) (c : Nat) (xs : List Int), Value.slice a0 len0 cap0 = .slice A xs.length c ∧ xs.length ≤ c ∧ Kd.C (Kd.int .u8) W A xs.length xs ∧ xs.length ≤ 140737488351232 ∧ ∀ b ∈ xs, (Lit.int .u8 b).wf = true)
  injection e0 with e00 e01 e02
  subst e00 e01 e02
  obtain ⟨l1, e1, hc1, hr1, hz1, hw1⟩ := lift_recs h1 (small hsz (j := 1) rfl rfl)
  subst e1
  obtain ⟨k, hk⟩ := room_law l0 l1 (bytes_of l0 hw0) hz1 hw1
  clear hA0 hval0 hsz0 hsz
  refine (beryllaw20_DiskRoom.calls k a0 cap0 l0 a1 cap1 l1 true W hr0 hc0 hr1 hc1 hk).mono fun e W' ⟨he, bel⟩ => ?_
  subst he
  exact ⟨_, rfl, _, _, _, [], _, [], hW', trodAll_mk1 (shut_bool Try.underlying4 _), (trodAll_cons_mk (Below.trod laidOut (by kernel_rfl) (of_decide_eq_true (by kernel_rfl)) k0 bel lt0) (trodAll_cons_mk (Below.trod laidOut (by kernel_rfl) (of_decide_eq_true (by kernel_rfl)) k1 bel lt1) trodAll_mk0)), rfl, bel.frame _, fun h => by cases h⟩
theorem over : Rows.diskRoomRow.holds Try.pinned (OpenSpec.ofChange Rows.diskRoomSpec) :=
  OpenClaim.holds_of_wide 4 Try.f4 rfl rfl rfl rfl rfl rfl rfl ⟨rfl, rfl, rfl, rfl, rfl⟩ rfl rfl rfl rfl rfl (by kernel_rfl) Try.func4 (by kernel_rfl)
    (of_decide_eq_true (by kernel_rfl)) (by unfold Func.isWrapper; first | (rw [if_pos (by decide +kernel)]; kernel_rfl) | (rw [if_neg (by decide +kernel)]; exact ⟨rfl, rfl⟩))
    (fun os started H enc _ => lifted os started H enc)
theorem proved : Rows.DiskRoomSaid := over
#print axioms proved
end Go.Proofs.Ytcdpkdehogcjnaa.diskRoom
namespace Go.Proofs.Ytcdpkdehogcjnaa
/-- The row, under a short name, for the claim. -/
theorem diskRoom_holds : Rows.DiskRoomSaid := diskRoom.proved
end Go.Proofs.Ytcdpkdehogcjnaa
