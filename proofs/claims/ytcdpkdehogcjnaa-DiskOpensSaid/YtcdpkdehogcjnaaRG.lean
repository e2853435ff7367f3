/- What the reference's small functions compute, and loading a record: plain facts and contracts, whatever the input. -/
import Derived.Test.YtcdpkdehogcjnaaR0
import Derived.Deep.SlicePairs
import Derived.SizedLaws
import Derived.WalkKit
import Derived.ProofKit
import Derived.OpenShut
import Derived.ChangeOld
import Derived.Below
import Derived.Test.YtcdpkdehogcjnaaRD
import Derived.Test.YtcdpkdehogcjnaaRB
import Derived.Test.YtcdpkdehogcjnaaR3
import Derived.Test.YtcdpkdehogcjnaaR4
import Derived.Test.YtcdpkdehogcjnaaRC
import Derived.Test.YtcdpkdehogcjnaaR6
import Derived.Test.YtcdpkdehogcjnaaRS
set_option linter.unusedVariables false
set_option linter.unusedSimpArgs false
/-! A parameter of records: what the row says of it, as a list. -/
namespace Go.Proofs.Ytcdpkdehogcjnaa.Print
open Go Go.ChangeShapes Go.WideShapes Go.ChangeAt Go.RowKit Go.Deep Go.Proofs.YtcdpkdehogcjnaaW.PrintWords Go.Proofs.YtcdpkdehogcjnaaW.PrintLast Go.Proofs.YtcdpkdehogcjnaaW.PrintMore

/-- what is asked of a record -/
def RecFits (x : S62) : Prop := (Lit.int .i64 x.f0).wf = true ∧ x.f1.length ≤ 140737488351232 ∧ ∀ b ∈ x.f1, (Lit.int .u8 b).wf = true

theorem weights_all {H : Type} {P : Program} {e : TypeId} : ∀ {l : List (DataW H)} {d : DataW H}, d ∈ l → ∀ n ∈ d.weights P e, n ∈ DataW.weightsAll P e l
  | [], _, h, _, _ => by cases h
  | a :: l, d, h, n, hn => by
    rw [DataW.weightsAll, List.mem_append]
    rcases List.mem_cons.1 h with rfl | h
    · exact .inl hn
    · exact .inr (weights_all h n hn)

section
variable {H : Type} {enc : TypeId × Value → H} {W : World} {held : Bool}

set_option maxRecDepth 100000 in
theorem lift_bytes {fuel : Nat} {v : Value} {d : DataW H} {ps : List MemPlace} (h : DataW.trod enc Try.prog W 0 (fun _ => true) held fuel 22 [v] = some (d, ps)) (hz : ∀ n ∈ d.weights Try.prog 22, n ≤ reachBytes) :
    ∃ (A : Option Addr) (c : Nat) (xs : List Int), v = .slice A xs.length c ∧ xs.length ≤ c ∧ Kd.C (Kd.int .u8) W A xs.length xs ∧ xs.length ≤ 140737488351232 ∧ ∀ b ∈ xs, (Lit.int .u8 b).wf = true := by
  rcases open_ints Try.underlying22 Try.underlying5 (by kernel_rfl) h with ⟨hcs, _⟩ | ⟨a, len, cap, zs, hcs, _, hl, hm, hzl, hx, hcell, hwf⟩
  · cases hcs
    exact ⟨none, 0, [], rfl, Nat.le_refl _, Kd.C_nil _ _, by simp, by simp⟩
  · cases hcs
    simp only [if_true] at hzl
    obtain ⟨hd, _⟩ := Prod.mk.inj hx
    subst hd
    have hlen : (zs.take len).length = len := by simp; omega
    have hw := hz ((lits (H := H) .u8 (zs.take len)).length + (lits (H := H) .u8 (zs.drop len)).length |>.mul (Try.prog.bytesOf 5)) (by
      rw [DataW.weights, Try.underlying22]
      exact List.mem_cons_self ..)
    rw [show Try.prog.bytesOf 5 = 1 from by kernel_rfl] at hw
    have hw2 : zs.length ≤ reachBytes := by
      simp [lits] at hw
      omega
    refine ⟨some a, cap, zs.take len, by rw [hlen], by omega, ?_, by rw [hlen]; unfold reachBytes at hw2; omega, fun b hb => hwf b (List.mem_of_mem_take hb)⟩
    rw [hlen]
    refine ⟨hlen, by unfold maxLen at hm; omega, fun _ => ⟨a, rfl, fun j p hj => ⟨[.int .u8 p], rfl, rfl, fun i u hu => ?_⟩⟩⟩
    cases i with
    | succ i => simp at hu
    | zero =>
      simp at hu
      subst hu
      show W.cell? (a.add (j * 1 + 0)) = _
      rw [Nat.mul_one, Nat.add_zero]
      have h1 : zs[j]? = some p := by
        rw [List.getElem?_take] at hj
        split at hj
        · exact hj
        · cases hj
      have h2 := hcell j (List.getElem?_eq_some_iff.1 h1).1
      rw [List.getD_eq_getElem?_getD, h1] at h2
      exact h2

set_option maxRecDepth 100000 in
theorem lift_recs {a : Option Addr} {len cap : Nat} {d : DataW H} {ps : List MemPlace} (h : DataW.Trod enc Try.prog W 0 (fun _ => true) held 23 (.slice a len cap) d ps) (hz : ∀ n ∈ d.weights Try.prog 23, n ≤ reachBytes) :
    ∃ l : List S62, l.length = len ∧ len ≤ cap ∧ Kd.C k62 W a len l ∧ len * 32 ≤ 140737488351232 ∧ ∀ x ∈ l, RecFits x := by
  obtain ⟨fuel, hf⟩ := h
  rcases open_slice_pairs Try.underlying23 Try.underlying62 (by kernel_rfl) rfl rfl (by kernel_rfl) (by kernel_rfl) hf with ⟨hcs, _⟩ | ⟨x, l', c', m, n, V0, V1, D0, D1, P0, P1, hcs, _, hl, hm, hmm, hx, hcell⟩
  · simp [Value.cells] at hcs
    obtain ⟨rfl, rfl, rfl⟩ := hcs
    exact ⟨[], rfl, Nat.le_refl _, Kd.C_nil _ _, by simp, by simp⟩
  · simp [Value.cells] at hcs
    obtain ⟨rfl, rfl, rfl⟩ := hcs
    simp only [if_true] at hmm
    subst hmm
    obtain ⟨hd, _⟩ := Prod.mk.inj hx
    subst hd
    rw [DataW.weights, Try.underlying23] at hz
    have hsz := hz _ (List.mem_cons_self ..)
    rw [show Try.prog.bytesOf 62 = 32 from by kernel_rfl] at hsz
    simp at hsz
    have each : ∀ i, i < len → ∃ y : S62 × Option Addr × Nat, V0 i = .int .i64 y.1.f0 ∧ V1 i = .slice y.2.1 y.1.f1.length y.2.2 ∧ y.1.f1.length ≤ y.2.2 ∧ Kd.C (Kd.int .u8) W y.2.1 y.1.f1.length y.1.f1 ∧ RecFits y.1 := by
      intro i hi
      obtain ⟨_, _, g0, g1⟩ := hcell i (by omega)
      obtain ⟨z, hz0, hz1, hzw⟩ := DataW.trod_int Try.underlying3 g0
      have hw1 : ∀ n ∈ (D1 i).weights Try.prog 22, n ≤ reachBytes := by
        intro n hn
        refine hz n (List.mem_cons_of_mem _ (List.mem_append_left _ (weights_all (d := .agg [D0 i, D1 i]) (List.mem_map.2 ⟨i, List.mem_range.2 hi, rfl⟩) n ?_)))
        rw [DataW.weights, Try.underlying62]
        show n ∈ DataW.weightsEach Try.prog [3, 22] [D0 i, D1 i]
        simp [DataW.weightsEach, hn]
      obtain ⟨A1, c1, xs, hv, hc1, hC, hsz1, hwf⟩ := lift_bytes g1 hw1
      refine ⟨(⟨z, xs⟩, A1, c1), by simpa using hz0, hv, hc1, hC, hzw, hsz1, hwf⟩
    haveI : Inhabited (S62 × Option Addr × Nat) := ⟨(⟨0, []⟩, none, 0)⟩
    obtain ⟨y, hy⟩ := choose_lt each
    refine ⟨(List.range len).map fun i => (y i).1, by simp, hl, ⟨by simp, by unfold maxLen at hm; omega, fun _ => ⟨x, rfl, fun j p hj => ?_⟩⟩, by unfold reachBytes at hsz; omega, fun q hq => ?_⟩
    · rw [List.getElem?_map] at hj
      obtain ⟨i, hi, rfl⟩ := Option.map_eq_some_iff.1 hj
      obtain ⟨hjl, hji⟩ := List.getElem?_eq_some_iff.1 hi
      simp at hjl hji
      subst hji
      obtain ⟨e0, e1, e2, e3, e4⟩ := hy j hjl
      obtain ⟨q0, q1, _, _⟩ := hcell j (by omega)
      refine ⟨_, rfl, k62_mk W (y j).1 e2 e3, fun i u hu => ?_⟩
      match i, hu with
      | 0, hu =>
        simp at hu
        subst hu
        rw [e0] at q0
        exact q0
      | 1, hu =>
        simp at hu
        subst hu
        rw [e1] at q1
        exact q1
    · obtain ⟨i, hi, rfl⟩ := List.mem_map.1 hq
      exact (hy i (List.mem_range.1 hi)).2.2.2.2
end
end Go.Proofs.Ytcdpkdehogcjnaa.Print

/-! plain facts that several laws of the disk want -/
namespace Go.Proofs.Ytcdpkdehogcjnaa.Print
open Go Go.RowKit Go.Proofs.YtcdpkdehogcjnaaW.PrintWords Go.Proofs.YtcdpkdehogcjnaaW.PrintLast Go.Proofs.YtcdpkdehogcjnaaW.PrintMore

def totN : List S62 → Nat
  | [] => 0
  | r :: l => r.f1.length + totN l
theorem tot_step (l : List S62) (i : Nat) (h : i < l.length) : totN (l.drop i) = l[i].f1.length + totN (l.drop (i + 1)) := by
  rw [List.drop_eq_getElem_cons h, totN]
theorem recs_len : ∀ l : List S62, (recsB l).length = 10 * l.length + totN l
  | [] => rfl
  | r :: l => by
    rw [recsB_cons, List.length_append, recB_len, recs_len l, totN, List.length_cons]
    omega
theorem tot_le {l : List S62} {B : Nat} (h : ∀ x ∈ l, x.f1.length ≤ B) : totN l ≤ l.length * B := by
  induction l with
  | nil => simp [totN]
  | cons r l ih =>
    have h1 := h r (List.mem_cons_self ..)
    have h2 := ih (fun x hx => h x (List.mem_cons_of_mem _ hx))
    rw [totN, List.length_cons, Nat.add_mul]
    omega
theorem few_far (xs : List Int) (l : List S62) (hl : l.length ≤ 4398046511104) (h3 : 300 < l.length) : ∀ (m i k : Nat) (acc : Int), i + m = l.length → m < k → beryllaw20_few.l0 k xs l acc (i : Int) = some false := by
  intro m
  induction m with
  | zero =>
    intro i k acc hi hk
    obtain ⟨k, rfl⟩ : ∃ j, k = j + 1 := ⟨k - 1, by omega⟩
    rw [beryllaw20_few.l0, if_neg (by omega)]
    split
    · rw [if_neg (by omega)]
    · rfl
  | succ m ih =>
    intro i k acc hi hk
    obtain ⟨k, rfl⟩ : ∃ j, k = j + 1 := ⟨k - 1, by omega⟩
    have e2 : wrap64 ((i : Int) + 1) = ((i + 1 : Nat) : Int) := by unfold wrap64; omega
    rw [beryllaw20_few.l0, if_pos (by omega), if_pos (by omega), e2]
    exact ih (i + 1) k _ (by omega) (by omega)
theorem few_near (xs : List Int) (l : List S62) (hl : l.length ≤ 300) (hB : ∀ x ∈ l, x.f1.length ≤ 140737488351232) : ∀ (m i k acc : Nat), i + m = l.length → m < k → acc + totN (l.drop i) ≤ 42221246505369600 →
    beryllaw20_few.l0 k xs l (acc : Int) (i : Int) = some (decide (xs.length ≤ 17000) && decide (acc + totN (l.drop i) ≤ 20000)) := by
  intro m
  induction m with
  | zero =>
    intro i k acc hi hk hs
    obtain ⟨k, rfl⟩ : ∃ j, k = j + 1 := ⟨k - 1, by omega⟩
    rw [beryllaw20_few.l0, if_neg (by omega), List.drop_of_length_le (by omega), totN]
    by_cases h1 : xs.length ≤ 17000
    · rw [if_pos (by omega), if_pos (by omega)]
      simp [h1]
      omega
    · rw [if_neg (by omega)]
      simp [h1]
  | succ m ih =>
    intro i k acc hi hk hs
    obtain ⟨k, rfl⟩ : ∃ j, k = j + 1 := ⟨k - 1, by omega⟩
    have hlt : i < l.length := by omega
    have e2 : wrap64 ((i : Int) + 1) = ((i + 1 : Nat) : Int) := by unfold wrap64; omega
    rw [tot_step l i hlt] at hs ⊢
    have e3 : wrap64 ((acc : Int) + (l[i].f1.length : Int)) = ((acc + l[i].f1.length : Nat) : Int) := by unfold wrap64; omega
    rw [beryllaw20_few.l0, if_pos (by omega), if_pos (by omega), e2, rdP l i hlt, e3, ih (i + 1) k (acc + l[i].f1.length) (by omega) (by omega) (by omega)]
    rw [Nat.add_assoc]
theorem few_f (xs : List Int) (l : List S62) (hl : l.length * 32 ≤ 140737488351232) (hB : ∀ x ∈ l, RecFits x) :
    ∃ b : Bool, (∀ k, l.length < k → beryllaw20_few.f k xs l = some b) ∧ (b = true → xs.length ≤ 17000 ∧ l.length ≤ 300 ∧ totN l ≤ 20000) := by
  by_cases h3 : l.length ≤ 300
  · have ht := tot_le (fun x hx => (hB x hx).2.1)
    have ht2 : totN l ≤ 42221246505369600 := Nat.le_trans ht (by omega)
    refine ⟨decide (xs.length ≤ 17000) && decide (totN l ≤ 20000), fun k hk => ?_, fun h => ?_⟩
    · have := few_near xs l h3 (fun x hx => (hB x hx).2.1) l.length 0 k 0 (by omega) hk (by simpa using ht2)
      simpa [beryllaw20_few.f] using this
    · simp at h
      exact ⟨h.1, h3, h.2⟩
  · refine ⟨false, fun k hk => ?_, fun h => by cases h⟩
    exact few_far xs l (by omega) (by omega) l.length 0 k 0 (by omega) hk
theorem asked_k (l : List S62) (hl : l.length ≤ 9223372036854775807) (k : Nat) (hk : l.length < k) : disk_asked.f k l = some (askedF l) :=
  mono_to (f := fun k => disk_asked.f k l) (fun k => disk_asked.mono l k) (asked_f l hl) k hk
theorem bytes_k (l : List S62) (hl : l.length ≤ 9223372036854775807) (hb : (recsB l).length ≤ 70368744177664) (k : Nat) (hk : l.length + 10 ≤ k) : disk_Bytes.f k l = some (if askedF l = 0 then (((recsB l).length : Int), 0) else (0, askedF l)) := by
  have h2 : disk_bytesOf.f k l = some (recsB l) := mono_to (f := fun k => disk_bytesOf.f k l) (fun k => disk_bytesOf.mono l k) (bytesOf_f l hl hb) k hk
  unfold disk_Bytes.f
  rw [asked_k l hl k (by omega), Option.bind_some, h2, Option.bind_some]
  split <;> rfl
theorem has_l0 (xs : List Int) (hl : xs.length ≤ 4398046511104) (n : Int) : ∀ (m i k : Nat), i + m = xs.length → m < k → beryllaw20_has.l0 k xs n (i : Int) = some (decide (n ∈ xs.drop i)) := by
  intro m
  induction m with
  | zero =>
    intro i k hi hk
    obtain ⟨k, rfl⟩ : ∃ j, k = j + 1 := ⟨k - 1, by omega⟩
    rw [beryllaw20_has.l0, if_neg (by omega), List.drop_of_length_le (by omega)]
    simp
  | succ m ih =>
    intro i k hi hk
    obtain ⟨k, rfl⟩ : ∃ j, k = j + 1 := ⟨k - 1, by omega⟩
    have hlt : i < xs.length := by omega
    have e2 : wrap64 ((i : Int) + 1) = ((i + 1 : Nat) : Int) := by unfold wrap64; omega
    have er : rd xs (i : Int) = xs[i] := by simp [rd, List.getD_eq_getElem?_getD, List.getElem?_eq_getElem hlt]
    rw [beryllaw20_has.l0, if_pos (by omega), if_pos (by omega), e2, er, List.drop_eq_getElem_cons hlt]
    by_cases h : xs[i] = n
    · rw [if_pos h]
      simp [h]
    · rw [if_neg h, ih (i + 1) k (by omega) (by omega)]
      exact congrArg some (decide_eq_decide.2 ⟨fun h' => List.mem_cons_of_mem _ h', fun h' => (List.mem_cons.1 h').resolve_left (fun e => h e.symm)⟩)
theorem has_f (xs : List Int) (hl : xs.length ≤ 4398046511104) (n : Int) (k : Nat) (hk : xs.length < k) : beryllaw20_has.f k xs n = some (decide (n ∈ xs)) := by
  have := has_l0 xs hl n xs.length 0 k (by omega) hk
  simpa [beryllaw20_has.f] using this
end Go.Proofs.Ytcdpkdehogcjnaa.Print

/-! DiskFree, in plain Lean: bytes of a block that a state does not use do not matter. -/
namespace Go.Proofs.Ytcdpkdehogcjnaa.Print
open Go Go.RowKit Go.Proofs.YtcdpkdehogcjnaaW.PrintWords Go.Proofs.YtcdpkdehogcjnaaW.PrintLast Go.Proofs.YtcdpkdehogcjnaaW.PrintMore

theorem putF_get {xs : List Int} {p : S34} (h : PutOk xs.length p) (q : Nat) (hq : q < p.f0.toNat * 64 ∨ p.f0.toNat * 64 + p.f1.length ≤ q) : (putF xs p)[q]? = xs[q]? := by
  obtain ⟨h0, h1, h2⟩ := h
  unfold putF
  have hl : (xs.take (p.f0.toNat * 64)).length = p.f0.toNat * 64 := by simp; omega
  rcases hq with hq | hq
  · rw [List.getElem?_append_left (by omega), List.getElem?_take, if_pos hq]
  · rw [List.getElem?_append_right (by omega), hl, List.getElem?_append_right (by omega), List.getElem?_drop]
    congr 1
    omega
theorem blk_get (xs : List Int) (i q : Nat) : (blkL xs i)[q]? = if q < 64 then xs[i * 64 + q]? else none := by
  unfold blkL
  rw [List.getElem?_take]
  split
  · rw [List.getElem?_drop]
  · rfl
theorem putF_blk {xs : List Int} {p : S34} (h : PutOk xs.length p) (i : Nat) (hi : i ≠ p.f0.toNat) : blkL (putF xs p) i = blkL xs i := by
  obtain ⟨_, _, h2⟩ := id h
  apply List.ext_getElem?
  intro q
  rw [blk_get, blk_get]
  split
  · refine putF_get h _ ?_
    rcases Nat.lt_or_ge i p.f0.toNat with h3 | h3
    · left
      have : (i + 1) * 64 ≤ p.f0.toNat * 64 := Nat.mul_le_mul_right 64 h3
      omega
    · right
      have : (p.f0.toNat + 1) * 64 ≤ i * 64 := Nat.mul_le_mul_right 64 (by omega)
      omega
  · rfl
theorem putF_bytes {xs : List Int} {p : S34} (h : IsBytes xs) (hp : IsBytes p.f1) : IsBytes (putF xs p) := by
  intro x hx
  unfold putF at hx
  rcases List.mem_append.1 hx with hx | hx
  · exact h x (List.mem_of_mem_take hx)
  · rcases List.mem_append.1 hx with hx | hx
    · exact hp x hx
    · exact h x (List.mem_of_mem_drop hx)

theorem chain_in (d : List Int) (nb : Nat) : ∀ (m a : Nat) (used : List Nat) (all : List Int) (u : List Nat) (al : List Int), chainF d nb m a used all = some (u, al) → ∀ x ∈ used, x ∈ u
  | 0, a, used, all, u, al, h, x, hx => by
    unfold chainF at h
    split at h
    · cases h; exact hx
    · cases h
  | m + 1, a, used, all, u, al, h, x, hx => by
    unfold chainF at h
    split at h
    · exact chain_in d nb m _ _ _ _ _ h x (List.mem_append_left _ hx)
    · cases h
/-- a chain is read alike where its blocks are alike -/
theorem chain_same (d d' : List Int) (nb : Nat) : ∀ (m a : Nat) (used : List Nat) (all : List Int) (u : List Nat) (al : List Int), chainF d nb m a used all = some (u, al) → (∀ x ∈ u, blkL d' x = blkL d x) → chainF d' nb m a used all = some (u, al)
  | 0, a, used, all, u, al, h, _ => h
  | m + 1, a, used, all, u, al, h, hs => by
    unfold chainF at h ⊢
    split at h
    · rename_i hc
      have ha : a ∈ u := chain_in d nb m _ _ _ _ _ h a (by simp)
      rw [if_pos hc, hs a ha]
      exact chain_same d d' nb m _ _ _ _ _ h hs
    · cases h
theorem head_same {xs ys : List Int} {nb i : Nat} {st : HSt} (h : headF xs nb i = some st) (hi : blkL ys i = blkL xs i) (hs : ∀ x ∈ st.used, blkL ys x = blkL xs x) : headF ys nb i = some st := by
  unfold headF at h ⊢
  simp only [hi] at h ⊢
  split at h
  · rename_i ho
    rw [if_pos ho]
    unfold headG at h ⊢
    split at h
    · cases h
    · rename_i used all hc
      split at h
      · rename_i hz
        rw [Option.map_eq_some_iff] at h
        obtain ⟨rs, hr, rfl⟩ := h
        rw [chain_same xs ys nb _ _ _ _ _ _ hc hs]
        simp only
        rw [if_pos hz, hr]
        rfl
      · cases h
  · cases h
/-- the version that a head's bytes tell -/
def verB (xs : List Int) (i : Nat) : Int := numb (((blkL xs i).drop 24).take 8)
theorem head_ver {xs : List Int} {nb i : Nat} {st : HSt} (h : headF xs nb i = some st) : st.ver = ((verB xs i).toNat : Int) := by
  unfold headF at h
  simp only at h
  split at h
  · unfold headG at h
    split at h
    · cases h
    · split at h
      · rw [Option.map_eq_some_iff] at h
        obtain ⟨rs, _, rfl⟩ := h
        rfl
      · cases h
  · cases h
/-- the best head stays the best, if the other one tells less -/
theorem best_same {xs ys : List Int} {nb j : Nat} {st : HSt} (h : bestK xs nb 2 = some (j, st)) (hj : headF ys nb j = some st) (ho : ∀ s, headF ys nb (1 - j) = some s → s.ver < st.ver) : bestK ys nb 2 = some (j, st) := by
  obtain ⟨hj2, _⟩ := best_head h
  have hj' : j = 0 ∨ j = 1 := by omega
  rcases hj' with rfl | rfl
  · unfold bestK bestK bestK
    rw [hj]
    cases h1 : headF ys nb 1 with
    | none => rfl
    | some s =>
      have := ho s h1
      simp only
      rw [if_neg (by omega)]
  · unfold bestK bestK bestK
    rw [hj]
    cases h1 : headF ys nb 0 with
    | none => rfl
    | some s =>
      have := ho s h1
      simp only
      rw [if_pos this]
theorem free_mem (u : List Nat) : ∀ (k i : Nat) (x : Int), x ∈ freeL u i k → ∃ f : Nat, x = (f : Int) ∧ i ≤ f ∧ f < i + k ∧ u.contains f = false
  | 0, i, x, h => by simp [freeL] at h
  | k + 1, i, x, h => by
    unfold freeL at h
    split at h
    · obtain ⟨f, h1, h2, h3, h4⟩ := free_mem u k (i + 1) x h
      exact ⟨f, h1, by omega, by omega, h4⟩
    · rename_i hc
      rcases List.mem_cons.1 h with rfl | h
      · exact ⟨i, rfl, Nat.le_refl _, by omega, by simpa using hc⟩
      · obtain ⟨f, h1, h2, h3, h4⟩ := free_mem u k (i + 1) x h
        exact ⟨f, h1, by omega, by omega, h4⟩

/-- WHAT IS TORN DOES NOT MATTER -/
theorem disk_torn {xs b : List Int} {j : Nat} {st : HSt} (h : diskF xs = some (j, st)) (f : Int) (hf : f ∈ freeL st.used 2 (xs.length / 64 - 2)) (hb : b.length ≤ 64) (ho : (verB xs (1 - j)).toNat < st.ver) :
    PutOk xs.length ⟨f, b⟩ ∧ diskF (putF xs ⟨f, b⟩) = some (j, st) := by
  obtain ⟨e64, h8, h256, hj1, hh, hv1, hv2, hu⟩ := disk_facts h
  obtain ⟨q, rfl, hq2, hqn, hqu⟩ := free_mem _ _ _ _ hf
  have hP : PutOk xs.length (⟨(q : Int), b⟩ : S34) := by
    refine ⟨Int.natCast_nonneg _, ?_, hb⟩
    show ((q : Int).toNat + 1) * 64 ≤ xs.length
    rw [Int.toNat_natCast]
    omega
  refine ⟨hP, ?_⟩
  have hl : (putF xs ⟨(q : Int), b⟩).length = xs.length := putF_len hP
  have hblk : ∀ i, i ≠ q → blkL (putF xs ⟨(q : Int), b⟩) i = blkL xs i := fun i hi => putF_blk hP i (by show i ≠ (q : Int).toNat; rw [Int.toNat_natCast]; exact hi)
  have hs : sizeOk xs.length = true := by
    unfold diskF at h
    split at h
    · assumption
    · cases h
  have hbest : bestK xs (xs.length / 64) 2 = some (j, st) := by
    unfold diskF at h
    rwa [if_pos hs] at h
  unfold diskF
  rw [hl, if_pos hs]
  refine best_same hbest (head_same hh (hblk j (by omega)) (fun x hx => hblk x (fun e => ?_))) (fun s hs2 => ?_)
  · subst e
    have : st.used.contains x = true := by simpa using hx
    rw [this] at hqu
    cases hqu
  · have h3 := head_ver hs2
    have h4 : verB (putF xs ⟨(q : Int), b⟩) (1 - j) = verB xs (1 - j) := by
      unfold verB
      rw [hblk (1 - j) (by omega)]
    rw [h4] at h3
    rw [h3]
    exact ho
end Go.Proofs.Ytcdpkdehogcjnaa.Print

/-! DiskFree, in plain Lean: the statement's small functions. -/
namespace Go.Proofs.Ytcdpkdehogcjnaa.Print
open Go Go.RowKit Go.Proofs.YtcdpkdehogcjnaaW.PrintWords Go.Proofs.YtcdpkdehogcjnaaW.PrintLast Go.Proofs.YtcdpkdehogcjnaaW.PrintMore

theorem same_recs (l : List S62) (hl : l.length ≤ 9223372036854775807) (k : Nat) (hk : l.length < k) : berylref20_SameRecords.f k l l = some true := by
  have go : ∀ (m i k : Nat), i + m = l.length → m < k → berylref20_SameRecords.l0 k l l (i : Int) = some true := by
    intro m
    induction m with
    | zero =>
      intro i k hi hk
      obtain ⟨k, rfl⟩ : ∃ j, k = j + 1 := ⟨k - 1, by omega⟩
      rw [berylref20_SameRecords.l0, if_neg (by omega)]
    | succ m ih =>
      intro i k hi hk
      obtain ⟨k, rfl⟩ : ∃ j, k = j + 1 := ⟨k - 1, by omega⟩
      have e2 : wrap64 ((i : Int) + 1) = ((i + 1 : Nat) : Int) := by unfold wrap64; omega
      rw [berylref20_SameRecords.l0, if_pos (by omega), if_pos (by omega), if_pos (by omega), e2, ih (i + 1) k (by omega) (by omega)]
      simp
  unfold berylref20_SameRecords.f
  have h := go l.length 0 k (by omega) hk
  simpa using h
theorem same_puts (l : List S34) (hl : l.length ≤ 9223372036854775807) (k : Nat) (hk : l.length < k) : berylref20_SamePuts.f k l l = some true := by
  have go : ∀ (m i k : Nat), i + m = l.length → m < k → berylref20_SamePuts.l0 k l l (i : Int) = some true := by
    intro m
    induction m with
    | zero =>
      intro i k hi hk
      obtain ⟨k, rfl⟩ : ∃ j, k = j + 1 := ⟨k - 1, by omega⟩
      rw [berylref20_SamePuts.l0, if_neg (by omega)]
    | succ m ih =>
      intro i k hi hk
      obtain ⟨k, rfl⟩ : ∃ j, k = j + 1 := ⟨k - 1, by omega⟩
      have e2 : wrap64 ((i : Int) + 1) = ((i + 1 : Nat) : Int) := by unfold wrap64; omega
      rw [berylref20_SamePuts.l0, if_pos (by omega), if_pos (by omega), if_pos (by omega), e2, ih (i + 1) k (by omega) (by omega)]
      simp
  unfold berylref20_SamePuts.f
  have h := go l.length 0 k (by omega) hk
  simpa using h
theorem pick_f (a n : Int) (h1 : 1 ≤ n) (h2 : n ≤ 1000000) : ∃ p, beryllaw20_pick.f a n = some p ∧ 0 ≤ p ∧ p < n := by
  unfold beryllaw20_pick.f
  rw [if_neg (by omega)]
  have hlt := Int.tmod_lt_of_pos a (show 0 < n by omega)
  have hgt : -n < Int.tmod a n := Int.lt_tmod_of_pos a (show 0 < n by omega)
  generalize Int.tmod a n = r at hlt hgt ⊢
  split
  · exact ⟨_, rfl, by unfold wrap64; omega, by unfold wrap64; omega⟩
  · exact ⟨r, rfl, by omega, hlt⟩

theorem w63 (x : Int) (h0 : 0 ≤ x) (h1 : x < 9223372036854775808) : wrap64 x = x := by
  unfold wrap64
  omega
theorem q32 (q : Nat) (h : q < 8) : ((24 + q : Nat) : Int) < 32 := by omega
theorem q24 (q : Nat) (h : 1 ≤ q) : ¬ ((24 + q : Nat) : Int) = 24 := by omega
theorem told_go (xs : List Int) (hl : xs.length ≤ 17000) (hb : IsBytes xs) (i : Nat) (v : Int) (hi : (i + 1) * 64 ≤ xs.length) (h0 : ((blkL xs i).drop 24).getD 0 0 ≤ 127) :
    ∀ (m q k : Nat), q + m = 8 → m < k → 1 ≤ q → beryllaw20_told.l0 k xs (i : Int) v (numb (((blkL xs i).drop 24).take q)) ((24 + q : Nat) : Int) = some (decide (numb (((blkL xs i).drop 24).take 8) ≥ v)) := by
  have hx : ∀ q, q < 8 → ((blkL xs i).drop 24)[q]? = some (xs.getD (i * 64 + 24 + q) 0) ∧ 0 ≤ xs.getD (i * 64 + 24 + q) 0 ∧ xs.getD (i * 64 + 24 + q) 0 < 256 := by
    intro q hq
    have hlt : i * 64 + 24 + q < xs.length := by omega
    have e : xs.getD (i * 64 + 24 + q) 0 = xs[i * 64 + 24 + q] := by simp [List.getD_eq_getElem?_getD, List.getElem?_eq_getElem hlt]
    rw [e, List.getElem?_drop, blk_get, if_pos (by omega), ← Nat.add_assoc, List.getElem?_eq_getElem hlt]
    exact ⟨rfl, hb _ (List.getElem_mem _)⟩
  have hnb : ∀ q, 1 ≤ q → q ≤ 8 → 0 ≤ numb (((blkL xs i).drop 24).take q) ∧ numb (((blkL xs i).drop 24).take q) < 128 * 256 ^ (q - 1) := by
    intro q
    induction q with
    | zero => intro h; omega
    | succ q ih =>
      intro _ hq8
      obtain ⟨h1, h2, h3⟩ := hx q (by omega)
      have hs : ((blkL xs i).drop 24).take (q + 1) = ((blkL xs i).drop 24).take q ++ [xs.getD (i * 64 + 24 + q) 0] := by rw [List.take_add_one, h1]; rfl
      rw [hs, numb_snoc]
      cases q with
      | zero =>
        rw [List.getD_eq_getElem?_getD, h1] at h0
        simp only [Option.getD_some] at h0
        simp only [List.take_zero]
        show 0 ≤ 256 * 0 + _ ∧ 256 * 0 + _ < 128 * 256 ^ 0
        omega
      | succ q =>
        obtain ⟨h4, h5⟩ := ih (by omega) (by omega)
        simp only [Nat.add_sub_cancel] at h5 ⊢
        rw [show (256 : Int) ^ (q + 1) = 256 ^ q * 256 from by rw [Int.pow_succ]]
        generalize (256 : Int) ^ q = P at h5 ⊢
        omega
  intro m
  induction m with
  | zero =>
    intro q k hq hk hq1
    obtain ⟨k, rfl⟩ : ∃ j, k = j + 1 := ⟨k - 1, by omega⟩
    obtain rfl : q = 8 := by omega
    rw [beryllaw20_told.l0, if_neg (by omega)]
  | succ m ih =>
    intro q k hq hk hq1
    obtain ⟨k, rfl⟩ : ∃ j, k = j + 1 := ⟨k - 1, by omega⟩
    obtain ⟨h1, h2, h3⟩ := hx q (by omega)
    obtain ⟨h4, h5⟩ := hnb q hq1 (by omega)
    have hp : (256 : Int) ^ (q - 1) ≤ 281474976710656 := by
      have hq7 : q = 1 ∨ q = 2 ∨ q = 3 ∨ q = 4 ∨ q = 5 ∨ q = 6 ∨ q = 7 := by omega
      rcases hq7 with rfl | rfl | rfl | rfl | rfl | rfl | rfl <;> decide
    have hs : ((blkL xs i).drop 24).take (q + 1) = ((blkL xs i).drop 24).take q ++ [xs.getD (i * 64 + 24 + q) 0] := by rw [List.take_add_one, h1]; rfl
    have ih2 := ih (q + 1) k (by omega) (by omega) (by omega)
    rw [hs, numb_snoc] at ih2
    have hi3 : i ≤ 1000 := by omega
    have hq8 : q < 8 := by omega
    have ea : wrap64 (wrap64 ((i : Int) * 64) + ((24 + q : Nat) : Int)) = ((i * 64 + 24 + q : Nat) : Int) := by
      clear ih ih2 hnb hx h0 h1 h2 h3 h4 h5 hp hs
      rw [w63 ((i : Int) * 64) (by omega) (by omega), w63 _ (by omega) (by omega)]
      omega
    have er : rd xs ((i * 64 + 24 + q : Nat) : Int) = xs.getD (i * 64 + 24 + q) 0 := by unfold rd; rw [Int.toNat_natCast]
    generalize xs.getD (i * 64 + 24 + q) 0 = x at h2 h3 er ih2
    generalize numb (((blkL xs i).drop 24).take q) = n at h4 h5 ih2 ⊢
    generalize (256 : Int) ^ (q - 1) = P at h5 hp
    have hn2 : n < 36028797018963968 := by
      clear ih ih2 hnb hx h0 h1 hs ea er
      omega
    have en : wrap64 (wrap64 (256 * n) + wrap64 x) = 256 * n + x := by
      clear ih ih2 hnb hx h0 h1 hs ea er hp h5
      rw [w63 (256 * n) (by omega) (by omega), w63 x h2 (by omega), w63 _ (by omega) (by omega)]
    have e1 : wrap64 (((24 + q : Nat) : Int) + 1) = ((24 + (q + 1) : Nat) : Int) := by
      clear ih ih2 hnb hx h0 h1 hs ea er hp h5
      rw [w63 _ (by omega) (by omega)]
      omega
    have hlen : i * 64 + 24 + q < xs.length := by
      clear ih ih2 hnb hx h0 h1 hs ea er hp h5 en e1
      omega
    clear hnb hx h0 h1 hs hp h5
    rw [beryllaw20_told.l0, if_pos (q32 q hq8), ea, if_pos (Int.natCast_nonneg _), if_pos (Int.ofNat_lt.2 hlen), if_neg (q24 q hq1), er, en, e1]
    exact ih2
theorem told_f (xs : List Int) (hl : xs.length ≤ 17000) (hb : IsBytes xs) (i : Nat) (v : Int) (hi : (i + 1) * 64 ≤ xs.length) : ∃ t : Bool, (∀ k, 10 < k → beryllaw20_told.f k xs (i : Int) v = some t) ∧ (t = false → verB xs i < v) := by
  have hlt : i * 64 + 24 < xs.length := by omega
  have e : xs.getD (i * 64 + 24) 0 = xs[i * 64 + 24] := by simp [List.getD_eq_getElem?_getD, List.getElem?_eq_getElem hlt]
  have hx := hb _ (List.getElem_mem hlt)
  rw [← e] at hx
  have h1 : ((blkL xs i).drop 24)[0]? = some (xs.getD (i * 64 + 24) 0) := by
    rw [List.getElem?_drop, blk_get, if_pos (by omega)]
    show xs[i * 64 + 24]? = _
    rw [e, List.getElem?_eq_getElem hlt]
  have h0 : ((blkL xs i).drop 24).getD 0 0 = xs.getD (i * 64 + 24) 0 := by rw [List.getD_eq_getElem?_getD, h1]; rfl
  have hi3 : i ≤ 1000 := by omega
  have ea : wrap64 (wrap64 ((i : Int) * 64) + 24) = ((i * 64 + 24 : Nat) : Int) := by
    clear hx h1 h0 e
    rw [w63 ((i : Int) * 64) (by omega) (by omega), w63 _ (by omega) (by omega)]
    omega
  have er : rd xs ((i * 64 + 24 : Nat) : Int) = xs.getD (i * 64 + 24) 0 := by unfold rd; rw [Int.toNat_natCast]
  have ew : wrap64 (xs.getD (i * 64 + 24) 0) = xs.getD (i * 64 + 24) 0 := w63 _ hx.1 (Int.lt_trans hx.2 (by decide))
  have ew2 : wrap64 (wrap64 (256 * 0) + xs.getD (i * 64 + 24) 0) = xs.getD (i * 64 + 24) 0 := by
    rw [show wrap64 (256 * 0) = 0 from w63 0 (by decide) (by decide), Int.zero_add]
    exact ew
  by_cases hg : xs.getD (i * 64 + 24) 0 > 127
  · refine ⟨true, fun k hk => ?_, fun h => by cases h⟩
    obtain ⟨k, rfl⟩ : ∃ j, k = j + 1 := ⟨k - 1, by omega⟩
    unfold beryllaw20_told.f
    rw [beryllaw20_told.l0, if_pos (by decide), ea, if_pos (Int.natCast_nonneg _), if_pos (Int.ofNat_lt.2 hlt), if_pos rfl, er, ew, if_pos hg]
  · refine ⟨decide (numb (((blkL xs i).drop 24).take 8) ≥ v), fun k hk => ?_, fun h => ?_⟩
    · obtain ⟨k, rfl⟩ : ∃ j, k = j + 1 := ⟨k - 1, by omega⟩
      have hk7 : 7 < k := by omega
      have hgo := told_go xs hl hb i v hi (by rw [h0]; exact Int.not_lt.1 hg) 7 1 k rfl hk7 (Nat.le_refl _)
      have hs : ((blkL xs i).drop 24).take 1 = [xs.getD (i * 64 + 24) 0] := by
        have := List.take_add_one (l := (blkL xs i).drop 24) (i := 0)
        rw [h1] at this
        simpa using this
      rw [hs] at hgo
      have hn : numb [xs.getD (i * 64 + 24) 0] = xs.getD (i * 64 + 24) 0 := by simp [numb]
      rw [hn] at hgo
      have e1 : wrap64 ((24 : Int) + 1) = ((24 + 1 : Nat) : Int) := w63 25 (by decide) (by decide)
      unfold beryllaw20_told.f
      rw [beryllaw20_told.l0, if_pos (by decide), ea, if_pos (Int.natCast_nonneg _), if_pos (Int.ofNat_lt.2 hlt), if_pos rfl, er, ew, if_neg hg, ew2, e1]
      exact hgo
    · unfold verB
      exact Int.not_le.1 (of_decide_eq_false h)
end Go.Proofs.Ytcdpkdehogcjnaa.Print

/-! The reference's small functions, in plain Lean: what they compute, with enough rounds. -/
namespace Go.Proofs.Ytcdpkdehogcjnaa.Print
open Go Go.RowKit Go.Proofs.YtcdpkdehogcjnaaW.PrintWords Go.Proofs.YtcdpkdehogcjnaaW.PrintLast Go.Proofs.YtcdpkdehogcjnaaW.PrintMore

theorem rdN (xs : List Int) (i : Nat) (h : i < xs.length) : rd xs (i : Int) = xs[i] := by
  simp [rd, List.getD_eq_getElem?_getD, List.getElem?_eq_getElem h]
theorem wNat (x : Nat) (h : x < 9223372036854775808) : wrap64 (x : Int) = (x : Int) := by unfold wrap64; omega
theorem wSucc (i n : Nat) (h : i < n) (hn : n ≤ 9223372036854775807) : wrap64 ((i : Int) + 1) = ((i + 1 : Nat) : Int) := by unfold wrap64; omega

theorem zeros_l0 (xs : List Int) (hl : xs.length ≤ 9223372036854775807) : ∀ (m i k : Nat), i + m = xs.length → m < k → berylref20_zeros.l0 k xs (i : Int) = some (isZ (xs.drop i)) := by
  intro m
  induction m with
  | zero =>
    intro i k hi hk
    obtain ⟨k, rfl⟩ : ∃ j, k = j + 1 := ⟨k - 1, by omega⟩
    rw [berylref20_zeros.l0, if_neg (by omega), List.drop_of_length_le (by omega)]
    rfl
  | succ m ih =>
    intro i k hi hk
    obtain ⟨k, rfl⟩ : ∃ j, k = j + 1 := ⟨k - 1, by omega⟩
    have hlt : i < xs.length := by omega
    rw [berylref20_zeros.l0, if_pos (by omega), if_pos (by omega), rdN xs i hlt, wSucc i _ hlt hl, List.drop_eq_getElem_cons hlt]
    by_cases h : xs[i] = 0
    · rw [if_pos h, ih (i + 1) k (by omega) (by omega), h]
      simp [isZ]
    · rw [if_neg h]
      unfold isZ
      rw [List.all_cons, beq_false_of_ne h]
      rfl
theorem zeros_k (xs : List Int) (hl : xs.length ≤ 9223372036854775807) (k : Nat) (hk : xs.length < k) : berylref20_zeros.f k xs = some (isZ xs) := by
  unfold berylref20_zeros.f
  have := zeros_l0 xs hl xs.length 0 k (by omega) (by omega)
  simpa using this

theorem word_k (xs : List Int) (h2 : 2 ≤ xs.length) (hb : IsBytes xs) : berylref20_word.f xs = some (numb (xs.take 2)) := by
  match xs, h2 with
  | a :: b :: l, _ =>
    have ha := hb a (by simp)
    have hb' := hb b (by simp)
    have e : rd (a :: b :: l) 0 = a := rfl
    have e1 : rd (a :: b :: l) 1 = b := rfl
    unfold berylref20_word.f
    rw [if_pos (by simp only [List.length_cons]; omega), if_pos (by simp only [List.length_cons]; omega), e, e1]
    have : numb ((a :: b :: l).take 2) = 256 * a + b := by simp [numb]
    rw [this]
    congr 1
    unfold wrap64
    omega

def longV (xs : List Int) : Int := if numb (xs.take 8) > 4611686018427387904 then -1 else numb (xs.take 8)
theorem step_wrap (a x N : Int) (h0 : 0 ≤ a) (hx : 0 ≤ x ∧ x < 256) (hb : 256 * a + x ≤ N) (hN : N < 9223372036854775808) : wrap64 (wrap64 (256 * a) + wrap64 x) = 256 * a + x := by
  unfold wrap64
  omega
theorem mul_up (a b x p : Int) (hx : 0 ≤ x) (hp : 0 ≤ p) (hb : b = 256 * a + x) : a * 256 * p ≤ b * p := Int.mul_le_mul_of_nonneg_right (by omega) hp
theorem pow_pos256 (m : Nat) : (1 : Int) ≤ 256 ^ m := by
  have := pow256 0 m (Nat.zero_le _)
  simpa using this
theorem numb_app_le : ∀ (zs ys : List Int), IsBytes zs → numb ys * 256 ^ zs.length ≤ numb (ys ++ zs)
  | [], ys, _ => by simp
  | z :: zs, ys, hz => by
    have h1 := numb_app_le zs (ys ++ [z]) (fun x hx => hz x (List.mem_cons_of_mem _ hx))
    rw [List.append_assoc] at h1
    simp only [List.singleton_append] at h1
    refine Int.le_trans ?_ h1
    rw [List.length_cons, Int.pow_succ, Int.mul_comm (256 ^ zs.length) 256, ← Int.mul_assoc]
    exact mul_up _ _ z _ (hz z (List.mem_cons_self ..)).1 (Int.le_trans (by decide) (pow_pos256 _)) (numb_snoc _ _)
theorem take_app (xs : List Int) (i m : Nat) : xs.take (i + m) = xs.take i ++ (xs.drop i).take m := List.take_add ..
theorem numb_take_le (xs : List Int) (hb : IsBytes xs) (i m : Nat) (h : i + m ≤ xs.length) : numb (xs.take i) ≤ numb (xs.take (i + m)) := by
  have h1 := numb_app_le ((xs.drop i).take m) (xs.take i) (bytes_take (bytes_drop hb _) _)
  rw [← take_app] at h1
  refine Int.le_trans ?_ h1
  have h0 : (0 : Int) ≤ numb (xs.take i) := (numb_bound _ (xs.take i) rfl (bytes_take hb i)).1
  have h2 := Int.mul_le_mul_of_nonneg_left (pow_pos256 ((xs.drop i).take m).length) h0
  rwa [Int.mul_one] at h2
theorem long_l0 (xs : List Int) (h8 : 8 ≤ xs.length) (hb : IsBytes xs) (hN : Aside0 (numb (xs.take 8) < 9223372036854775808)) : ∀ (m i k : Nat), i + m = 8 → m < k →
    berylref20_long.l0 k xs (numb (xs.take i)) (i : Int) = some (longV xs) := by
  intro m
  induction m with
  | zero =>
    intro i k hi hk
    obtain ⟨k, rfl⟩ : ∃ j, k = j + 1 := ⟨k - 1, by omega⟩
    obtain rfl : i = 8 := by omega
    rw [berylref20_long.l0, if_neg (by decide)]
    unfold longV
    split <;> rfl
  | succ m ih =>
    intro i k hi hk
    obtain ⟨k, rfl⟩ : ∃ j, k = j + 1 := ⟨k - 1, by omega⟩
    have hlt : i < xs.length := by omega
    have c1 : (i : Int) < 8 := by omega
    have c2 : (0 : Int) ≤ i := by omega
    have c3 : (i : Int) < xs.length := by omega
    have c4 : (i + 1) + m ≤ xs.length := by omega
    have c5 : i + 1 + m = 8 := by omega
    have c6 : m < k := by omega
    have e2 : wrap64 ((i : Int) + 1) = ((i + 1 : Nat) : Int) := wSucc i 9 (by omega) (by omega)
    have hx := hb xs[i] (List.getElem_mem hlt)
    have hs : numb (xs.take (i + 1)) = 256 * numb (xs.take i) + xs[i] := by rw [take_get (List.getElem?_eq_getElem hlt), numb_snoc]
    have h0 := (numb_bound _ (xs.take i) rfl (bytes_take hb i)).1
    have hbnd := numb_take_le xs hb (i + 1) m c4
    rw [c5, hs] at hbnd
    rw [berylref20_long.l0, if_pos c1, if_pos c2, if_pos c3, rdN xs i hlt, step_wrap _ _ _ h0 hx hbnd hN.out, ← hs, e2]
    exact ih (i + 1) k c5 c6
theorem top_lim (a b : Int) (ha : a ≤ 64) (hb : b < 256 ^ 7) : a * 72057594037927936 + b < 9223372036854775808 := by
  have e : (256 : Int) ^ 7 = 72057594037927936 := by decide
  rw [e] at hb
  omega
theorem top_far (a b : Int) (ha : a > 64) (hb : 0 ≤ b) : a * 72057594037927936 + b > 4611686018427387904 := by omega
theorem fold256 : ∀ (ys : List Int) (n : Int), ys.foldl (fun n x => 256 * n + x) n = n * 256 ^ ys.length + numb ys
  | [], n => by simp [numb]
  | y :: ys, n => by
    have h1 := fold256 ys (256 * n + y)
    have h2 := fold256 ys (256 * 0 + y)
    unfold numb at h1 h2 ⊢
    rw [List.foldl_cons, List.foldl_cons, h1, h2, List.length_cons, Int.pow_succ]
    generalize (256 : Int) ^ ys.length = p
    simp only [Int.mul_zero, Int.zero_add, Int.add_mul]
    rw [Int.mul_comm p 256, ← Int.mul_assoc, Int.mul_comm n 256, Int.add_assoc]
theorem long_k (xs : List Int) (h8 : 8 ≤ xs.length) (hb : IsBytes xs) (k : Nat) (hk : 8 < k) : berylref20_long.f k xs = some (longV xs) := by
  match xs, h8 with
  | a :: l, h8 =>
    have ha := hb a (by simp)
    have e : rd (a :: l) 0 = a := rfl
    have hl7 : (l.take 7).length = 7 := by simp at h8 ⊢; omega
    have hbl : IsBytes (l.take 7) := bytes_take (fun x hx => hb x (List.mem_cons_of_mem _ hx)) 7
    have hn : numb ((a :: l).take 8) = a * 72057594037927936 + numb (l.take 7) := by
      have h1 := fold256 (l.take 7) (256 * 0 + a)
      show List.foldl _ _ (a :: l.take 7) = _
      rw [List.foldl_cons, h1, hl7, Int.mul_zero, Int.zero_add]
      rfl
    have hb7 := numb_bound 7 (l.take 7) hl7 hbl
    unfold berylref20_long.f
    rw [if_pos (by simp only [List.length_cons]; omega), e]
    by_cases h : a > 64
    · rw [if_pos h, longV, if_pos (by rw [hn]; exact top_far _ _ h hb7.1)]
    · rw [if_neg h]
      have hlim : numb ((a :: l).take 8) < 9223372036854775808 := by rw [hn]; exact top_lim _ _ (by omega) hb7.2
      exact long_l0 (a :: l) h8 hb ⟨hlim⟩ 8 0 k (by omega) (by omega)

theorem right_l0 (l : List S62) (hl : l.length ≤ 9223372036854775807) : ∀ (m i k : Nat), i + m = l.length → m < k →
    berylref20_right.l0 k l (i : Int) = some (askedR (if i = 0 then none else (l[i - 1]?).map (·.f0)) (l.drop i) == 0) := by
  intro m
  induction m with
  | zero =>
    intro i k hi hk
    obtain ⟨k, rfl⟩ : ∃ j, k = j + 1 := ⟨k - 1, by omega⟩
    rw [berylref20_right.l0, if_neg (by omega), List.drop_of_length_le (by omega), askedR_nil]
    rfl
  | succ m ih =>
    intro i k hi hk
    obtain ⟨k, rfl⟩ : ∃ j, k = j + 1 := ⟨k - 1, by omega⟩
    have hlt : i < l.length := by omega
    have hnext : berylref20_right.l0 k l ((i + 1 : Nat) : Int) = some (askedR (some l[i].f0) (l.drop (i + 1)) == 0) := by
      rw [ih (i + 1) k (by omega) (by omega), if_neg (by omega), Nat.add_sub_cancel, List.getElem?_eq_getElem hlt]
      rfl
    rw [berylref20_right.l0, if_pos (by omega), if_pos (by omega), rdP l i hlt, wSucc i _ hlt hl, hnext, List.drop_eq_getElem_cons hlt, askedR_cons]
    by_cases h1 : l[i].f0 < 1
    · rw [if_pos h1, if_pos h1]; rfl
    rw [if_neg h1, if_neg h1]
    by_cases h2 : l[i].f0 > 4611686018427387904
    · rw [if_pos h2, if_pos h2]; rfl
    rw [if_neg h2, if_neg h2]
    by_cases h3 : (l[i].f1.length : Int) > 4000
    · rw [if_pos h3, if_pos h3]; rfl
    rw [if_neg h3, if_neg h3]
    by_cases h0 : i = 0
    · subst h0
      rw [if_neg (by omega), if_pos rfl]
    · have e3 : wrap64 ((i : Int) - 1) = ((i - 1 : Nat) : Int) := by unfold wrap64; omega
      have hlt1 : i - 1 < l.length := by omega
      rw [if_pos (by omega), e3, if_pos (by omega), if_pos (by omega), rdP l (i - 1) hlt1, if_neg h0, List.getElem?_eq_getElem hlt1]
      simp only [Option.map_some]
      by_cases h4 : l[i].f0 ≤ l[i - 1].f0
      · rw [if_pos h4, if_pos (by omega)]; rfl
      · rw [if_neg h4, if_neg (by omega)]
theorem right_k (l : List S62) (hl : l.length ≤ 9223372036854775807) (k : Nat) (hk : l.length < k) : berylref20_right.f k l = some (askedF l == 0) := by
  unfold berylref20_right.f askedF
  have := right_l0 l hl l.length 0 k (by omega) (by omega)
  simpa using this

/-- records of bytes, unchecked -/
def parseF : Nat → List Int → Option (List S62)
  | 0, xs => if xs.length = 0 then some [] else none
  | f + 1, xs => if xs.length = 0 then some [] else if xs.length < 10 then none else if (recS xs).toNat + 10 > xs.length then none else
    (parseF f (xs.drop (10 + (recS xs).toNat))).map (fun l => (⟨longV xs, (xs.drop 10).take (recS xs).toNat⟩ : S62) :: l)
theorem recS_nat (xs : List Int) (hb : IsBytes xs) : ∃ k : Nat, recS xs = k ∧ k < 65536 := by
  obtain ⟨k, h1, h2⟩ := numb_nat ((xs.drop 8).take 2) (bytes_take (bytes_drop hb 8) 2) 2 (by simp; omega)
  exact ⟨k, h1, h2⟩
theorem asked_zero (l : List S62) : askedR (some 0) l = askedR none l := by
  cases l with
  | nil => rfl
  | cons r l =>
    rw [askedR_cons, askedR_cons]
    by_cases h1 : r.f0 < 1
    · rw [if_pos h1, if_pos h1]
    rw [if_neg h1, if_neg h1]
    simp only
    rw [if_neg (show ¬ r.f0 ≤ 0 by omega)]
theorem recs_parse : ∀ (f : Nat) (last : Int) (xs : List Int), IsBytes xs → recsF f last xs = (parseF f xs).bind (fun l => if askedR (some last) l = 0 then some l else none)
  | 0, last, xs, _ => by
    unfold recsF parseF
    split
    · rw [Option.bind_some, askedR_nil, if_pos rfl]
    · rfl
  | f + 1, last, xs, hb => by
    obtain ⟨sz, hsz, hszb⟩ := recS_nat xs hb
    have ih := recs_parse f (recN xs) (xs.drop (10 + (recS xs).toNat)) (bytes_drop hb _)
    rw [hsz, Int.toNat_natCast] at ih
    have hN0 := (numb_bound _ (xs.take 8) rfl (bytes_take hb 8)).1
    unfold recsF parseF
    by_cases h0 : xs.length = 0
    · rw [if_pos h0, if_pos h0, Option.bind_some, askedR_nil, if_pos rfl]
    rw [if_neg h0, if_neg h0, hsz, Int.toNat_natCast]
    by_cases h10 : xs.length < 10
    · rw [if_pos h10, if_neg (fun h => by have := h.1; omega)]; rfl
    rw [if_neg h10]
    by_cases hs : sz + 10 > xs.length
    · rw [if_pos hs, if_neg (fun h => by have := h.2.2.2.2.2; rw [hsz] at this; omega)]; rfl
    rw [if_neg hs, ih]
    have hlen : ((xs.drop 10).take sz).length = sz := by simp; omega
    cases hp : parseF f (xs.drop (10 + sz)) with
    | none => simp
    | some l =>
      simp only [Option.map_some, Option.bind_some]
      obtain ⟨r, hrr⟩ : ∃ r : S62, r = ⟨longV xs, (xs.drop 10).take sz⟩ := ⟨_, rfl⟩
      have e0 : r.f0 = longV xs := by rw [hrr]
      have e1 : r.f1.length = sz := by rw [hrr]; exact hlen
      rw [← hrr]
      by_cases hr : RecOk xs.length last xs
      · obtain ⟨r1, r2, r3, r4, r5, r6⟩ := id hr
        have hv : longV xs = recN xs := by unfold longV; exact if_neg (by unfold recN at r3; omega)
        have hA : askedR (some last) (r :: l) = askedR (some (recN xs)) l := by
          rw [askedR_cons, e0, e1, hv, if_neg (by omega), if_neg (by omega), if_neg (by omega)]
          exact if_neg (by omega)
        rw [if_pos hr, hA, hrr, hv]
        split
        · rfl
        · rfl
      · have hA : askedR (some last) (r :: l) = 1 := by
          rw [askedR_cons, e0, e1]
          by_cases hv : numb (xs.take 8) > 4611686018427387904
          · rw [longV, if_pos hv]; rfl
          · have hv' : longV xs = recN xs := by unfold longV; exact if_neg hv
            have hv2 : recN xs ≤ 4611686018427387904 := by unfold recN; omega
            rw [hv']
            by_cases c1 : recN xs < 1
            · rw [if_pos c1]
            rw [if_neg c1, if_neg (show ¬ recN xs > 4611686018427387904 by omega)]
            by_cases c3 : (sz : Int) > 4000
            · rw [if_pos c3]
            rw [if_neg c3]
            by_cases c4 : recN xs ≤ last
            · exact if_pos c4
            · exact absurd ⟨by omega, by omega, hv2, by omega, by omega, by omega⟩ hr
        rw [if_neg hr, hA]
        rfl

/-- what the reference reads of bytes -/
def readL (xs : List Int) : List S62 × Bool :=
  match parseF xs.length xs with
  | none => ([], false)
  | some l => (l, askedF l == 0)
theorem parse_len : ∀ (f : Nat) (xs : List Int) (l : List S62), parseF f xs = some l → l.length * 10 ≤ xs.length
  | 0, xs, l, h => by
    unfold parseF at h
    split at h
    · cases h; simp
    · cases h
  | f + 1, xs, l, h => by
    unfold parseF at h
    split at h
    · cases h; simp
    split at h
    · cases h
    split at h
    · cases h
    rw [Option.map_eq_some_iff] at h
    obtain ⟨l', h1, rfl⟩ := h
    have := parse_len f _ _ h1
    simp at this ⊢
    omega
theorem read_l0 : ∀ (f : Nat) (xs : List Int) (acc : List S62) (k : Nat), IsBytes xs → xs.length ≤ f → xs.length + acc.length ≤ 2000000 → xs.length + acc.length + 12 ≤ k →
    berylref20_read.l0 k xs acc = some (match parseF f xs with | none => ([], false) | some l => (acc ++ l, askedF (acc ++ l) == 0)) := by
  intro f
  induction f with
  | zero =>
    intro xs acc k hb hf hm hk
    obtain ⟨k, rfl⟩ : ∃ j, k = j + 1 := ⟨k - 1, by omega⟩
    rw [berylref20_read.l0, if_neg (by omega), right_k acc (by omega) k (by omega), Option.bind_some, parseF, if_pos (by omega)]
    simp
  | succ f ih =>
    intro xs acc k hb hf hm hk
    obtain ⟨k, rfl⟩ : ∃ j, k = j + 1 := ⟨k - 1, by omega⟩
    rw [berylref20_read.l0, parseF]
    by_cases h0 : xs.length = 0
    · rw [if_neg (by omega), right_k acc (by omega) k (by omega), Option.bind_some, if_pos h0]
      simp
    rw [if_pos (by omega), if_neg h0]
    by_cases h10 : xs.length < 10
    · rw [if_pos (by omega), if_pos h10]
    obtain ⟨sz, hsz, hszb⟩ := recS_nat xs hb
    have hw : berylref20_word.f (xs.drop 8) = some (sz : Int) := by rw [word_k _ (by simp; omega) (bytes_drop hb 8)]; exact congrArg some hsz
    have e1 : wrap64 ((xs.length : Int) - 10) = ((xs.length - 10 : Nat) : Int) := by unfold wrap64; omega
    have e2 : wrap64 (10 + (sz : Int)) = ((10 + sz : Nat) : Int) := by unfold wrap64; omega
    rw [if_neg (by omega), if_neg h10, if_pos (by omega), hw, Option.bind_some, e1, hsz, Int.toNat_natCast]
    by_cases hs : sz + 10 > xs.length
    · rw [if_pos (by omega), if_pos hs]
    have hlen : ((xs.take (10 + sz)).drop 10).length = sz := by simp; omega
    have hdt : (xs.take (10 + sz)).drop 10 = (xs.drop 10).take sz := by rw [List.drop_take]; simp
    rw [if_neg (by omega), if_neg hs, long_k xs (by omega) hb k (by omega), Option.bind_some, Option.bind_some, e2, if_pos (by omega), if_pos (by omega), Option.bind_some, Int.toNat_natCast, if_pos (by rw [hlen]; simp; omega), if_pos (by omega), if_pos (by omega)]
    have hr := ih (xs.drop (10 + sz)) (acc ++ [(⟨longV xs, ([] : List Int) ++ (xs.take (10 + sz)).drop 10⟩ : S62)]) k (bytes_drop hb _) (by simp; omega) (by simp; omega) (by simp; omega)
    rw [hr, hdt]
    cases parseF f (xs.drop (10 + sz)) with
    | none => rfl
    | some l => simp [List.append_assoc]
theorem read_k (xs : List Int) (hb : IsBytes xs) (hm : xs.length ≤ 2000000) (k : Nat) (hk : xs.length + 12 ≤ k) : berylref20_read.f k xs = some (readL xs) := by
  unfold berylref20_read.f readL
  rw [read_l0 xs.length xs [] k hb (Nat.le_refl _) (by simp; omega) (by simp; omega)]
  cases parseF xs.length xs <;> simp
theorem recs_read (xs : List Int) (hb : IsBytes xs) : recsF xs.length 0 xs = if (readL xs).2 then some (readL xs).1 else none := by
  rw [recs_parse _ _ _ hb]
  unfold readL
  cases parseF xs.length xs with
  | none => rfl
  | some l =>
    rw [Option.bind_some, asked_zero]
    unfold askedF
    simp only [beq_iff_eq]
end Go.Proofs.Ytcdpkdehogcjnaa.Print

namespace Go.Proofs.Ytcdpkdehogcjnaa.Print
open Go.RowKit Go.Proofs.YtcdpkdehogcjnaaW.PrintWords Go.Proofs.YtcdpkdehogcjnaaW.PrintLast Go.Proofs.YtcdpkdehogcjnaaW.PrintMore

theorem parcel_at {W : World} {base : Nat} {ok : Nat → Prop} {A : Option Addr} {n c : Nat} {l : List S62} (h : Kd.R k62 62 W base ok (.slice A n c) l) (i : Nat) (hi : i < n) :
    ∃ ad A1 c1 x, A = some ad ∧ l[i]? = some x ∧ W.cell? (ad.add (i * 2)) = some (.int .i64 x.f0) ∧ W.cell? ⟨(ad.add (i * 2)).block, (ad.add (i * 2)).off + 1, none⟩ = some (.slice A1 x.f1.length c1) ∧
      Kd.R (Kd.int .u8) 5 W base ok (.slice A1 x.f1.length c1) x.f1 := by
  obtain ⟨hn, _, hC⟩ := Kd.R_reads' h
  obtain ⟨ad, A1, c1, e, h0, h1, hl, _⟩ := at_T62 hC (i : Int) (by omega) (by omega)
  subst e
  obtain ⟨ce, _, hM, hcc⟩ := Kd.R_get h z62 (i : Int) (by omega) (by omega)
  obtain ⟨v1, rfl, g1⟩ := k62_openM hM
  have hv := hcc 1 _ rfl
  have hv' : W.cell? ⟨(ad.add (i * 2)).block, (ad.add (i * 2)).off + 1, none⟩ = some v1 := by
    rw [← add_field _ _ 1 (by omega)]; exact hv
  have e2 := Option.some.inj (hv'.symm.trans h1)
  subst e2
  have hx : l[i]? = some (rd_T62 l (i : Int)) := by
    have hlt : i < l.length := by omega
    rw [List.getElem?_eq_getElem hlt]
    unfold rd_T62
    simp [List.getD_eq_getElem?_getD, List.getElem?_eq_getElem hlt]
  exact ⟨ad, A1, c1, _, rfl, hx, h0, h1, Kd.R_mono g1 (fun k hk => hk.1)⟩

def loadF (num : Int) : List S62 → List Int × Int
  | [] => ([], 3)
  | r :: l => if r.f0 = num then (r.f1, 0) else loadF num l

def disk_Load.f (l0 : List Int) (a1 : Int) : Option (List Int × Int) := if IsBytes l0 then some (match diskF l0 with | none => ([], 200) | some (_, st) => loadF a1 st.recs) else none
theorem disk_Load.calls (A0 : Option Addr) (c0 : Nat) (l0 : List Int) (a1 : Int) (r1 : List Int) (r2 : Int) (w : World) (hr0 : Kd.C (Kd.int .u8) w A0 l0.length l0) (hc0 : l0.length ≤ c0) (h : disk_Load.f l0 a1 = some (r1, r2)) :
    Calls Try.prog 28 #[.slice A0 l0.length c0, .int .i64 a1] w fun e w' => ∃ v0_ : Value, e = .returned (.tuple #[v0_, .int .i64 r2]) ∧ Kd.R (Kd.int .u8) 5 w' w.heap.size (fun _ => True) v0_ r1 ∧ Below w.heap.size w w' := by
  unfold disk_Load.f at h
  by_cases hb : IsBytes l0
  rotate_left
  · rw [if_neg hb] at h; exact absurd h (by simp)
  rw [if_pos hb] at h
  have HH := Aside0.mk h
  have HR := Aside0.mk hr0
  have HB := Aside0.mk hb
  clear h hr0 hb
  go_enter Try.func28, Try.ntmps28
  go_wp2_with fail
  refine (open_all A0 _ c0 l0 w HR.out hc0 HB.out).mono ?_
  rintro e w1 ⟨hb, v, rfl, hbest⟩
  have HW := Aside0.mk hb
  have hh := HH.out
  clear hb HH HR HB
  generalize diskF l0 = o at *
  cases o with
  | none =>
    obtain rfl : v = .pointer none := hbest
    obtain ⟨rfl, rfl⟩ : r1 = [] ∧ r2 = 200 := by simpa [eq_comm] using hh
    clear hh
    simp only [Option.isSome_none, Bool.false_eq_true, if_false]
    go_wp2_with fail
    go_returns
    exact ⟨_, rfl, Kd.R_nil _ _ _ _ _, HW.out⟩
  | some q =>
    obtain ⟨j, st⟩ := q
    obtain ⟨g, mb, vr, rfl, hg, hgB, hgm, hS⟩ := hbest
    have hh' : loadF a1 st.recs = (r1, r2) := by simpa using hh
    have HH := Aside0.mk hh'
    have hc := blk_cell hg 4
    simp at hc
    obtain ⟨A, cc, rfl, hlc, hC⟩ := Kd.R_reads hS.recs
    have hmx := Kd.C_max hC
    have HS := Aside0.mk hS.recs
    clear hh hh' hS hg hC
    simp only [Option.isSome_some, if_true]
    go_wp2_with fail
    go_loopw [24] (fun k wr => ∃ i : Nat, k = .int .i64 i ∧ i ≤ st.recs.length ∧ Aside0 (Below w1.heap.size w1 wr) ∧ Aside0 (loadF a1 (st.recs.drop i) = (r1, r2))) (fun k _ => st.recs.length - (intOf k).toNat)
    case atStart => exact ⟨0, rfl, by omega, ⟨Below.refl _ _⟩, ⟨HH.out⟩⟩
    case round =>
      obtain ⟨i, rfl, hi, HB1, HL⟩ := hrel
      by_cases hlt : i < st.recs.length
      · have hd : decide (i < st.recs.length) = true := decide_eq_true hlt
        have HR1 : Aside0 (Kd.R k62 62 wr w.heap.size (fun b => b ≠ mb) (.slice A st.recs.length cc) st.recs) := ⟨Kd.R_below HS.out HB1.out⟩
        obtain ⟨ad, A1, c1, x, rfl, hx, h0, h1, hR⟩ := parcel_at HR1.out i hlt
        have HX := Aside0.mk hx
        have HRX := Aside0.mk hR
        clear hx hR
        by_cases hn : x.f0 = a1
        · have hn' : (x.f0 == a1) = true := beq_iff_eq.mpr hn
          have HN := Aside0.mk hn
          clear hn
          go_wp2_with fail
          go_returns
          have h := HL.out
          obtain ⟨hi', hxi⟩ := List.getElem?_eq_some_iff.1 HX.out
          rw [List.drop_eq_getElem_cons hi', hxi, loadF, if_pos HN.out] at h
          obtain ⟨rfl, rfl⟩ := Prod.mk.inj h
          refine ⟨_, rfl, Kd.R_alloc (Kd.R_mono HRX.out (fun _ _ => trivial)) _, below_alloc (HW.out.trans (HB1.out.mono HW.out.size)) _⟩
        · have hn' : (x.f0 == a1) = false := beq_eq_false_iff_ne.mpr hn
          have HN := Aside0.mk hn
          clear hn
          go_wp2_with fail
          go_roundw
          case measure => simp [intOf]; omega
          case rel =>
            refine ⟨i + 1, by go_num, by omega, ⟨below_alloc HB1.out _⟩, ⟨?_⟩⟩
            have h := HL.out
            obtain ⟨hi', hxi⟩ := List.getElem?_eq_some_iff.1 HX.out
            rw [List.drop_eq_getElem_cons hi', hxi, loadF, if_neg HN.out] at h
            exact h
      · have hd : decide (i < st.recs.length) = false := decide_eq_false hlt
        go_wp2_with fail
        go_returns
        have h := HL.out
        rw [List.drop_of_length_le (by omega), loadF] at h
        obtain ⟨rfl, rfl⟩ := Prod.mk.inj h
        exact ⟨_, rfl, Kd.R_nil _ _ _ _ _, HW.out.trans (HB1.out.mono HW.out.size)⟩
end Go.Proofs.Ytcdpkdehogcjnaa.Print
