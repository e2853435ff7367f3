/- Saving, dropping and merging records; what was written is read again: contracts and plain facts, whatever the input. -/
import Derived.Test.YtcdpkdehogcjnaaRD
import Derived.Test.YtcdpkdehogcjnaaRB
import Derived.Test.YtcdpkdehogcjnaaR3
import Derived.Test.YtcdpkdehogcjnaaR4
import Derived.Test.YtcdpkdehogcjnaaRE
import Derived.Test.YtcdpkdehogcjnaaRC
import Derived.BigQuiet
import Derived.Deep.QuietTactic
set_option linter.unusedVariables false
set_option linter.unusedSimpArgs false
/-! plain facts that several laws of the disk want -/
namespace Go.Proofs.Ytcdpkdehogcjnaa.Print
open Go Go.RowKit Go.Proofs.YtcdpkdehogcjnaaW.PrintWords Go.Proofs.YtcdpkdehogcjnaaW.PrintLast Go.Proofs.YtcdpkdehogcjnaaW.PrintMore

def totN : List S62 → Nat
  | [] => 0
  | r :: l => r.f1.length + totN l
theorem tot_step (l : List S62) (i : Nat) (h : i < l.length) : totN (l.drop i) = l[i].f1.length + totN (l.drop (i + 1)) := by
  rw [List.drop_eq_getElem_cons h, totN]
theorem recs_len : ∀ l : List S62, (recsB l).length = 10 * l.length + totN l
  | [] => rfl
  | r :: l => by
    rw [recsB_cons, List.length_append, recB_len, recs_len l, totN, List.length_cons]
    omega
theorem tot_le {l : List S62} {B : Nat} (h : ∀ x ∈ l, x.f1.length ≤ B) : totN l ≤ l.length * B := by
  induction l with
  | nil => simp [totN]
  | cons r l ih =>
    have h1 := h r (List.mem_cons_self ..)
    have h2 := ih (fun x hx => h x (List.mem_cons_of_mem _ hx))
    rw [totN, List.length_cons, Nat.add_mul]
    omega
theorem few_far (xs : List Int) (l : List S62) (hl : l.length ≤ 4398046511104) (h3 : 300 < l.length) : ∀ (m i k : Nat) (acc : Int), i + m = l.length → m < k → beryllaw20_few.l0 k xs l acc (i : Int) = some false := by
  intro m
  induction m with
  | zero =>
    intro i k acc hi hk
    obtain ⟨k, rfl⟩ : ∃ j, k = j + 1 := ⟨k - 1, by omega⟩
    rw [beryllaw20_few.l0, if_neg (by omega)]
    split
    · rw [if_neg (by omega)]
    · rfl
  | succ m ih =>
    intro i k acc hi hk
    obtain ⟨k, rfl⟩ : ∃ j, k = j + 1 := ⟨k - 1, by omega⟩
    have e2 : wrap64 ((i : Int) + 1) = ((i + 1 : Nat) : Int) := by unfold wrap64; omega
    rw [beryllaw20_few.l0, if_pos (by omega), if_pos (by omega), e2]
    exact ih (i + 1) k _ (by omega) (by omega)
theorem few_near (xs : List Int) (l : List S62) (hl : l.length ≤ 300) (hB : ∀ x ∈ l, x.f1.length ≤ 140737488351232) : ∀ (m i k acc : Nat), i + m = l.length → m < k → acc + totN (l.drop i) ≤ 42221246505369600 →
    beryllaw20_few.l0 k xs l (acc : Int) (i : Int) = some (decide (xs.length ≤ 17000) && decide (acc + totN (l.drop i) ≤ 20000)) := by
  intro m
  induction m with
  | zero =>
    intro i k acc hi hk hs
    obtain ⟨k, rfl⟩ : ∃ j, k = j + 1 := ⟨k - 1, by omega⟩
    rw [beryllaw20_few.l0, if_neg (by omega), List.drop_of_length_le (by omega), totN]
    by_cases h1 : xs.length ≤ 17000
    · rw [if_pos (by omega), if_pos (by omega)]
      simp [h1]
      omega
    · rw [if_neg (by omega)]
      simp [h1]
  | succ m ih =>
    intro i k acc hi hk hs
    obtain ⟨k, rfl⟩ : ∃ j, k = j + 1 := ⟨k - 1, by omega⟩
    have hlt : i < l.length := by omega
    have e2 : wrap64 ((i : Int) + 1) = ((i + 1 : Nat) : Int) := by unfold wrap64; omega
    rw [tot_step l i hlt] at hs ⊢
    have e3 : wrap64 ((acc : Int) + (l[i].f1.length : Int)) = ((acc + l[i].f1.length : Nat) : Int) := by unfold wrap64; omega
    rw [beryllaw20_few.l0, if_pos (by omega), if_pos (by omega), e2, rdP l i hlt, e3, ih (i + 1) k (acc + l[i].f1.length) (by omega) (by omega) (by omega)]
    rw [Nat.add_assoc]
theorem few_f (xs : List Int) (l : List S62) (hl : l.length * 32 ≤ 140737488351232) (hB : ∀ x ∈ l, RecFits x) :
    ∃ b : Bool, (∀ k, l.length < k → beryllaw20_few.f k xs l = some b) ∧ (b = true → xs.length ≤ 17000 ∧ l.length ≤ 300 ∧ totN l ≤ 20000) := by
  by_cases h3 : l.length ≤ 300
  · have ht := tot_le (fun x hx => (hB x hx).2.1)
    have ht2 : totN l ≤ 42221246505369600 := Nat.le_trans ht (by omega)
    refine ⟨decide (xs.length ≤ 17000) && decide (totN l ≤ 20000), fun k hk => ?_, fun h => ?_⟩
    · have := few_near xs l h3 (fun x hx => (hB x hx).2.1) l.length 0 k 0 (by omega) hk (by simpa using ht2)
      simpa [beryllaw20_few.f] using this
    · simp at h
      exact ⟨h.1, h3, h.2⟩
  · refine ⟨false, fun k hk => ?_, fun h => by cases h⟩
    exact few_far xs l (by omega) (by omega) l.length 0 k 0 (by omega) hk
theorem asked_k (l : List S62) (hl : l.length ≤ 9223372036854775807) (k : Nat) (hk : l.length < k) : disk_asked.f k l = some (askedF l) :=
  mono_to (f := fun k => disk_asked.f k l) (fun k => disk_asked.mono l k) (asked_f l hl) k hk
theorem bytes_k (l : List S62) (hl : l.length ≤ 9223372036854775807) (hb : (recsB l).length ≤ 70368744177664) (k : Nat) (hk : l.length + 10 ≤ k) : disk_Bytes.f k l = some (if askedF l = 0 then (((recsB l).length : Int), 0) else (0, askedF l)) := by
  have h2 : disk_bytesOf.f k l = some (recsB l) := mono_to (f := fun k => disk_bytesOf.f k l) (fun k => disk_bytesOf.mono l k) (bytesOf_f l hl hb) k hk
  unfold disk_Bytes.f
  rw [asked_k l hl k (by omega), Option.bind_some, h2, Option.bind_some]
  split <;> rfl
theorem has_l0 (xs : List Int) (hl : xs.length ≤ 4398046511104) (n : Int) : ∀ (m i k : Nat), i + m = xs.length → m < k → beryllaw20_has.l0 k xs n (i : Int) = some (decide (n ∈ xs.drop i)) := by
  intro m
  induction m with
  | zero =>
    intro i k hi hk
    obtain ⟨k, rfl⟩ : ∃ j, k = j + 1 := ⟨k - 1, by omega⟩
    rw [beryllaw20_has.l0, if_neg (by omega), List.drop_of_length_le (by omega)]
    simp
  | succ m ih =>
    intro i k hi hk
    obtain ⟨k, rfl⟩ : ∃ j, k = j + 1 := ⟨k - 1, by omega⟩
    have hlt : i < xs.length := by omega
    have e2 : wrap64 ((i : Int) + 1) = ((i + 1 : Nat) : Int) := by unfold wrap64; omega
    have er : rd xs (i : Int) = xs[i] := by simp [rd, List.getD_eq_getElem?_getD, List.getElem?_eq_getElem hlt]
    rw [beryllaw20_has.l0, if_pos (by omega), if_pos (by omega), e2, er, List.drop_eq_getElem_cons hlt]
    by_cases h : xs[i] = n
    · rw [if_pos h]
      simp [h]
    · rw [if_neg h, ih (i + 1) k (by omega) (by omega)]
      exact congrArg some (decide_eq_decide.2 ⟨fun h' => List.mem_cons_of_mem _ h', fun h' => (List.mem_cons.1 h').resolve_left (fun e => h e.symm)⟩)
theorem has_f (xs : List Int) (hl : xs.length ≤ 4398046511104) (n : Int) (k : Nat) (hk : xs.length < k) : beryllaw20_has.f k xs n = some (decide (n ∈ xs)) := by
  have := has_l0 xs hl n xs.length 0 k (by omega) hk
  simpa [beryllaw20_has.f] using this
end Go.Proofs.Ytcdpkdehogcjnaa.Print

/-! DiskFree, in plain Lean: bytes of a block that a state does not use do not matter. -/
namespace Go.Proofs.Ytcdpkdehogcjnaa.Print
open Go Go.RowKit Go.Proofs.YtcdpkdehogcjnaaW.PrintWords Go.Proofs.YtcdpkdehogcjnaaW.PrintLast Go.Proofs.YtcdpkdehogcjnaaW.PrintMore

theorem putF_get {xs : List Int} {p : S34} (h : PutOk xs.length p) (q : Nat) (hq : q < p.f0.toNat * 64 ∨ p.f0.toNat * 64 + p.f1.length ≤ q) : (putF xs p)[q]? = xs[q]? := by
  obtain ⟨h0, h1, h2⟩ := h
  unfold putF
  have hl : (xs.take (p.f0.toNat * 64)).length = p.f0.toNat * 64 := by simp; omega
  rcases hq with hq | hq
  · rw [List.getElem?_append_left (by omega), List.getElem?_take, if_pos hq]
  · rw [List.getElem?_append_right (by omega), hl, List.getElem?_append_right (by omega), List.getElem?_drop]
    congr 1
    omega
theorem blk_get (xs : List Int) (i q : Nat) : (blkL xs i)[q]? = if q < 64 then xs[i * 64 + q]? else none := by
  unfold blkL
  rw [List.getElem?_take]
  split
  · rw [List.getElem?_drop]
  · rfl
theorem putF_blk {xs : List Int} {p : S34} (h : PutOk xs.length p) (i : Nat) (hi : i ≠ p.f0.toNat) : blkL (putF xs p) i = blkL xs i := by
  obtain ⟨_, _, h2⟩ := id h
  apply List.ext_getElem?
  intro q
  rw [blk_get, blk_get]
  split
  · refine putF_get h _ ?_
    rcases Nat.lt_or_ge i p.f0.toNat with h3 | h3
    · left
      have : (i + 1) * 64 ≤ p.f0.toNat * 64 := Nat.mul_le_mul_right 64 h3
      omega
    · right
      have : (p.f0.toNat + 1) * 64 ≤ i * 64 := Nat.mul_le_mul_right 64 (by omega)
      omega
  · rfl
theorem putF_bytes {xs : List Int} {p : S34} (h : IsBytes xs) (hp : IsBytes p.f1) : IsBytes (putF xs p) := by
  intro x hx
  unfold putF at hx
  rcases List.mem_append.1 hx with hx | hx
  · exact h x (List.mem_of_mem_take hx)
  · rcases List.mem_append.1 hx with hx | hx
    · exact hp x hx
    · exact h x (List.mem_of_mem_drop hx)

theorem chain_in (d : List Int) (nb : Nat) : ∀ (m a : Nat) (used : List Nat) (all : List Int) (u : List Nat) (al : List Int), chainF d nb m a used all = some (u, al) → ∀ x ∈ used, x ∈ u
  | 0, a, used, all, u, al, h, x, hx => by
    unfold chainF at h
    split at h
    · cases h; exact hx
    · cases h
  | m + 1, a, used, all, u, al, h, x, hx => by
    unfold chainF at h
    split at h
    · exact chain_in d nb m _ _ _ _ _ h x (List.mem_append_left _ hx)
    · cases h
/-- a chain is read alike where its blocks are alike -/
theorem chain_same (d d' : List Int) (nb : Nat) : ∀ (m a : Nat) (used : List Nat) (all : List Int) (u : List Nat) (al : List Int), chainF d nb m a used all = some (u, al) → (∀ x ∈ u, blkL d' x = blkL d x) → chainF d' nb m a used all = some (u, al)
  | 0, a, used, all, u, al, h, _ => h
  | m + 1, a, used, all, u, al, h, hs => by
    unfold chainF at h ⊢
    split at h
    · rename_i hc
      have ha : a ∈ u := chain_in d nb m _ _ _ _ _ h a (by simp)
      rw [if_pos hc, hs a ha]
      exact chain_same d d' nb m _ _ _ _ _ h hs
    · cases h
theorem head_same {xs ys : List Int} {nb i : Nat} {st : HSt} (h : headF xs nb i = some st) (hi : blkL ys i = blkL xs i) (hs : ∀ x ∈ st.used, blkL ys x = blkL xs x) : headF ys nb i = some st := by
  unfold headF at h ⊢
  simp only [hi] at h ⊢
  split at h
  · rename_i ho
    rw [if_pos ho]
    unfold headG at h ⊢
    split at h
    · cases h
    · rename_i used all hc
      split at h
      · rename_i hz
        rw [Option.map_eq_some_iff] at h
        obtain ⟨rs, hr, rfl⟩ := h
        rw [chain_same xs ys nb _ _ _ _ _ _ hc hs]
        simp only
        rw [if_pos hz, hr]
        rfl
      · cases h
  · cases h
/-- the version that a head's bytes tell -/
def verB (xs : List Int) (i : Nat) : Int := numb (((blkL xs i).drop 24).take 8)
theorem head_ver {xs : List Int} {nb i : Nat} {st : HSt} (h : headF xs nb i = some st) : st.ver = ((verB xs i).toNat : Int) := by
  unfold headF at h
  simp only at h
  split at h
  · unfold headG at h
    split at h
    · cases h
    · split at h
      · rw [Option.map_eq_some_iff] at h
        obtain ⟨rs, _, rfl⟩ := h
        rfl
      · cases h
  · cases h
/-- the best head stays the best, if the other one tells less -/
theorem best_same {xs ys : List Int} {nb j : Nat} {st : HSt} (h : bestK xs nb 2 = some (j, st)) (hj : headF ys nb j = some st) (ho : ∀ s, headF ys nb (1 - j) = some s → s.ver < st.ver) : bestK ys nb 2 = some (j, st) := by
  obtain ⟨hj2, _⟩ := best_head h
  have hj' : j = 0 ∨ j = 1 := by omega
  rcases hj' with rfl | rfl
  · unfold bestK bestK bestK
    rw [hj]
    cases h1 : headF ys nb 1 with
    | none => rfl
    | some s =>
      have := ho s h1
      simp only
      rw [if_neg (by omega)]
  · unfold bestK bestK bestK
    rw [hj]
    cases h1 : headF ys nb 0 with
    | none => rfl
    | some s =>
      have := ho s h1
      simp only
      rw [if_pos this]
theorem free_mem (u : List Nat) : ∀ (k i : Nat) (x : Int), x ∈ freeL u i k → ∃ f : Nat, x = (f : Int) ∧ i ≤ f ∧ f < i + k ∧ u.contains f = false
  | 0, i, x, h => by simp [freeL] at h
  | k + 1, i, x, h => by
    unfold freeL at h
    split at h
    · obtain ⟨f, h1, h2, h3, h4⟩ := free_mem u k (i + 1) x h
      exact ⟨f, h1, by omega, by omega, h4⟩
    · rename_i hc
      rcases List.mem_cons.1 h with rfl | h
      · exact ⟨i, rfl, Nat.le_refl _, by omega, by simpa using hc⟩
      · obtain ⟨f, h1, h2, h3, h4⟩ := free_mem u k (i + 1) x h
        exact ⟨f, h1, by omega, by omega, h4⟩

/-- WHAT IS TORN DOES NOT MATTER -/
theorem disk_torn {xs b : List Int} {j : Nat} {st : HSt} (h : diskF xs = some (j, st)) (f : Int) (hf : f ∈ freeL st.used 2 (xs.length / 64 - 2)) (hb : b.length ≤ 64) (ho : (verB xs (1 - j)).toNat < st.ver) :
    PutOk xs.length ⟨f, b⟩ ∧ diskF (putF xs ⟨f, b⟩) = some (j, st) := by
  obtain ⟨e64, h8, h256, hj1, hh, hv1, hv2, hu⟩ := disk_facts h
  obtain ⟨q, rfl, hq2, hqn, hqu⟩ := free_mem _ _ _ _ hf
  have hP : PutOk xs.length (⟨(q : Int), b⟩ : S34) := by
    refine ⟨Int.natCast_nonneg _, ?_, hb⟩
    show ((q : Int).toNat + 1) * 64 ≤ xs.length
    rw [Int.toNat_natCast]
    omega
  refine ⟨hP, ?_⟩
  have hl : (putF xs ⟨(q : Int), b⟩).length = xs.length := putF_len hP
  have hblk : ∀ i, i ≠ q → blkL (putF xs ⟨(q : Int), b⟩) i = blkL xs i := fun i hi => putF_blk hP i (by show i ≠ (q : Int).toNat; rw [Int.toNat_natCast]; exact hi)
  have hs : sizeOk xs.length = true := by
    unfold diskF at h
    split at h
    · assumption
    · cases h
  have hbest : bestK xs (xs.length / 64) 2 = some (j, st) := by
    unfold diskF at h
    rwa [if_pos hs] at h
  unfold diskF
  rw [hl, if_pos hs]
  refine best_same hbest (head_same hh (hblk j (by omega)) (fun x hx => hblk x (fun e => ?_))) (fun s hs2 => ?_)
  · subst e
    have : st.used.contains x = true := by simpa using hx
    rw [this] at hqu
    cases hqu
  · have h3 := head_ver hs2
    have h4 : verB (putF xs ⟨(q : Int), b⟩) (1 - j) = verB xs (1 - j) := by
      unfold verB
      rw [hblk (1 - j) (by omega)]
    rw [h4] at h3
    rw [h3]
    exact ho
end Go.Proofs.Ytcdpkdehogcjnaa.Print

/-! DiskFree, in plain Lean: the statement's small functions. -/
namespace Go.Proofs.Ytcdpkdehogcjnaa.Print
open Go Go.RowKit Go.Proofs.YtcdpkdehogcjnaaW.PrintWords Go.Proofs.YtcdpkdehogcjnaaW.PrintLast Go.Proofs.YtcdpkdehogcjnaaW.PrintMore

theorem same_recs (l : List S62) (hl : l.length ≤ 9223372036854775807) (k : Nat) (hk : l.length < k) : berylref20_SameRecords.f k l l = some true := by
  have go : ∀ (m i k : Nat), i + m = l.length → m < k → berylref20_SameRecords.l0 k l l (i : Int) = some true := by
    intro m
    induction m with
    | zero =>
      intro i k hi hk
      obtain ⟨k, rfl⟩ : ∃ j, k = j + 1 := ⟨k - 1, by omega⟩
      rw [berylref20_SameRecords.l0, if_neg (by omega)]
    | succ m ih =>
      intro i k hi hk
      obtain ⟨k, rfl⟩ : ∃ j, k = j + 1 := ⟨k - 1, by omega⟩
      have e2 : wrap64 ((i : Int) + 1) = ((i + 1 : Nat) : Int) := by unfold wrap64; omega
      rw [berylref20_SameRecords.l0, if_pos (by omega), if_pos (by omega), if_pos (by omega), e2, ih (i + 1) k (by omega) (by omega)]
      simp
  unfold berylref20_SameRecords.f
  have h := go l.length 0 k (by omega) hk
  simpa using h
theorem same_puts (l : List S34) (hl : l.length ≤ 9223372036854775807) (k : Nat) (hk : l.length < k) : berylref20_SamePuts.f k l l = some true := by
  have go : ∀ (m i k : Nat), i + m = l.length → m < k → berylref20_SamePuts.l0 k l l (i : Int) = some true := by
    intro m
    induction m with
    | zero =>
      intro i k hi hk
      obtain ⟨k, rfl⟩ : ∃ j, k = j + 1 := ⟨k - 1, by omega⟩
      rw [berylref20_SamePuts.l0, if_neg (by omega)]
    | succ m ih =>
      intro i k hi hk
      obtain ⟨k, rfl⟩ : ∃ j, k = j + 1 := ⟨k - 1, by omega⟩
      have e2 : wrap64 ((i : Int) + 1) = ((i + 1 : Nat) : Int) := by unfold wrap64; omega
      rw [berylref20_SamePuts.l0, if_pos (by omega), if_pos (by omega), if_pos (by omega), e2, ih (i + 1) k (by omega) (by omega)]
      simp
  unfold berylref20_SamePuts.f
  have h := go l.length 0 k (by omega) hk
  simpa using h
theorem pick_f (a n : Int) (h1 : 1 ≤ n) (h2 : n ≤ 1000000) : ∃ p, beryllaw20_pick.f a n = some p ∧ 0 ≤ p ∧ p < n := by
  unfold beryllaw20_pick.f
  rw [if_neg (by omega)]
  have hlt := Int.tmod_lt_of_pos a (show 0 < n by omega)
  have hgt : -n < Int.tmod a n := Int.lt_tmod_of_pos a (show 0 < n by omega)
  generalize Int.tmod a n = r at hlt hgt ⊢
  split
  · exact ⟨_, rfl, by unfold wrap64; omega, by unfold wrap64; omega⟩
  · exact ⟨r, rfl, by omega, hlt⟩

theorem w63 (x : Int) (h0 : 0 ≤ x) (h1 : x < 9223372036854775808) : wrap64 x = x := by
  unfold wrap64
  omega
theorem q32 (q : Nat) (h : q < 8) : ((24 + q : Nat) : Int) < 32 := by omega
theorem q24 (q : Nat) (h : 1 ≤ q) : ¬ ((24 + q : Nat) : Int) = 24 := by omega
theorem told_go (xs : List Int) (hl : xs.length ≤ 17000) (hb : IsBytes xs) (i : Nat) (v : Int) (hi : (i + 1) * 64 ≤ xs.length) (h0 : ((blkL xs i).drop 24).getD 0 0 ≤ 127) :
    ∀ (m q k : Nat), q + m = 8 → m < k → 1 ≤ q → beryllaw20_told.l0 k xs (i : Int) v (numb (((blkL xs i).drop 24).take q)) ((24 + q : Nat) : Int) = some (decide (numb (((blkL xs i).drop 24).take 8) ≥ v)) := by
  have hx : ∀ q, q < 8 → ((blkL xs i).drop 24)[q]? = some (xs.getD (i * 64 + 24 + q) 0) ∧ 0 ≤ xs.getD (i * 64 + 24 + q) 0 ∧ xs.getD (i * 64 + 24 + q) 0 < 256 := by
    intro q hq
    have hlt : i * 64 + 24 + q < xs.length := by omega
    have e : xs.getD (i * 64 + 24 + q) 0 = xs[i * 64 + 24 + q] := by simp [List.getD_eq_getElem?_getD, List.getElem?_eq_getElem hlt]
    rw [e, List.getElem?_drop, blk_get, if_pos (by omega), ← Nat.add_assoc, List.getElem?_eq_getElem hlt]
    exact ⟨rfl, hb _ (List.getElem_mem _)⟩
  have hnb : ∀ q, 1 ≤ q → q ≤ 8 → 0 ≤ numb (((blkL xs i).drop 24).take q) ∧ numb (((blkL xs i).drop 24).take q) < 128 * 256 ^ (q - 1) := by
    intro q
    induction q with
    | zero => intro h; omega
    | succ q ih =>
      intro _ hq8
      obtain ⟨h1, h2, h3⟩ := hx q (by omega)
      have hs : ((blkL xs i).drop 24).take (q + 1) = ((blkL xs i).drop 24).take q ++ [xs.getD (i * 64 + 24 + q) 0] := by rw [List.take_add_one, h1]; rfl
      rw [hs, numb_snoc]
      cases q with
      | zero =>
        rw [List.getD_eq_getElem?_getD, h1] at h0
        simp only [Option.getD_some] at h0
        simp only [List.take_zero]
        show 0 ≤ 256 * 0 + _ ∧ 256 * 0 + _ < 128 * 256 ^ 0
        omega
      | succ q =>
        obtain ⟨h4, h5⟩ := ih (by omega) (by omega)
        simp only [Nat.add_sub_cancel] at h5 ⊢
        rw [show (256 : Int) ^ (q + 1) = 256 ^ q * 256 from by rw [Int.pow_succ]]
        generalize (256 : Int) ^ q = P at h5 ⊢
        omega
  intro m
  induction m with
  | zero =>
    intro q k hq hk hq1
    obtain ⟨k, rfl⟩ : ∃ j, k = j + 1 := ⟨k - 1, by omega⟩
    obtain rfl : q = 8 := by omega
    rw [beryllaw20_told.l0, if_neg (by omega)]
  | succ m ih =>
    intro q k hq hk hq1
    obtain ⟨k, rfl⟩ : ∃ j, k = j + 1 := ⟨k - 1, by omega⟩
    obtain ⟨h1, h2, h3⟩ := hx q (by omega)
    obtain ⟨h4, h5⟩ := hnb q hq1 (by omega)
    have hp : (256 : Int) ^ (q - 1) ≤ 281474976710656 := by
      have hq7 : q = 1 ∨ q = 2 ∨ q = 3 ∨ q = 4 ∨ q = 5 ∨ q = 6 ∨ q = 7 := by omega
      rcases hq7 with rfl | rfl | rfl | rfl | rfl | rfl | rfl <;> decide
    have hs : ((blkL xs i).drop 24).take (q + 1) = ((blkL xs i).drop 24).take q ++ [xs.getD (i * 64 + 24 + q) 0] := by rw [List.take_add_one, h1]; rfl
    have ih2 := ih (q + 1) k (by omega) (by omega) (by omega)
    rw [hs, numb_snoc] at ih2
    have hi3 : i ≤ 1000 := by omega
    have hq8 : q < 8 := by omega
    have ea : wrap64 (wrap64 ((i : Int) * 64) + ((24 + q : Nat) : Int)) = ((i * 64 + 24 + q : Nat) : Int) := by
      clear ih ih2 hnb hx h0 h1 h2 h3 h4 h5 hp hs
      rw [w63 ((i : Int) * 64) (by omega) (by omega), w63 _ (by omega) (by omega)]
      omega
    have er : rd xs ((i * 64 + 24 + q : Nat) : Int) = xs.getD (i * 64 + 24 + q) 0 := by unfold rd; rw [Int.toNat_natCast]
    generalize xs.getD (i * 64 + 24 + q) 0 = x at h2 h3 er ih2
    generalize numb (((blkL xs i).drop 24).take q) = n at h4 h5 ih2 ⊢
    generalize (256 : Int) ^ (q - 1) = P at h5 hp
    have hn2 : n < 36028797018963968 := by
      clear ih ih2 hnb hx h0 h1 hs ea er
      omega
    have en : wrap64 (wrap64 (256 * n) + wrap64 x) = 256 * n + x := by
      clear ih ih2 hnb hx h0 h1 hs ea er hp h5
      rw [w63 (256 * n) (by omega) (by omega), w63 x h2 (by omega), w63 _ (by omega) (by omega)]
    have e1 : wrap64 (((24 + q : Nat) : Int) + 1) = ((24 + (q + 1) : Nat) : Int) := by
      clear ih ih2 hnb hx h0 h1 hs ea er hp h5
      rw [w63 _ (by omega) (by omega)]
      omega
    have hlen : i * 64 + 24 + q < xs.length := by
      clear ih ih2 hnb hx h0 h1 hs ea er hp h5 en e1
      omega
    clear hnb hx h0 h1 hs hp h5
    rw [beryllaw20_told.l0, if_pos (q32 q hq8), ea, if_pos (Int.natCast_nonneg _), if_pos (Int.ofNat_lt.2 hlen), if_neg (q24 q hq1), er, en, e1]
    exact ih2
theorem told_f (xs : List Int) (hl : xs.length ≤ 17000) (hb : IsBytes xs) (i : Nat) (v : Int) (hi : (i + 1) * 64 ≤ xs.length) : ∃ t : Bool, (∀ k, 10 < k → beryllaw20_told.f k xs (i : Int) v = some t) ∧ (t = false → verB xs i < v) := by
  have hlt : i * 64 + 24 < xs.length := by omega
  have e : xs.getD (i * 64 + 24) 0 = xs[i * 64 + 24] := by simp [List.getD_eq_getElem?_getD, List.getElem?_eq_getElem hlt]
  have hx := hb _ (List.getElem_mem hlt)
  rw [← e] at hx
  have h1 : ((blkL xs i).drop 24)[0]? = some (xs.getD (i * 64 + 24) 0) := by
    rw [List.getElem?_drop, blk_get, if_pos (by omega)]
    show xs[i * 64 + 24]? = _
    rw [e, List.getElem?_eq_getElem hlt]
  have h0 : ((blkL xs i).drop 24).getD 0 0 = xs.getD (i * 64 + 24) 0 := by rw [List.getD_eq_getElem?_getD, h1]; rfl
  have hi3 : i ≤ 1000 := by omega
  have ea : wrap64 (wrap64 ((i : Int) * 64) + 24) = ((i * 64 + 24 : Nat) : Int) := by
    clear hx h1 h0 e
    rw [w63 ((i : Int) * 64) (by omega) (by omega), w63 _ (by omega) (by omega)]
    omega
  have er : rd xs ((i * 64 + 24 : Nat) : Int) = xs.getD (i * 64 + 24) 0 := by unfold rd; rw [Int.toNat_natCast]
  have ew : wrap64 (xs.getD (i * 64 + 24) 0) = xs.getD (i * 64 + 24) 0 := w63 _ hx.1 (Int.lt_trans hx.2 (by decide))
  have ew2 : wrap64 (wrap64 (256 * 0) + xs.getD (i * 64 + 24) 0) = xs.getD (i * 64 + 24) 0 := by
    rw [show wrap64 (256 * 0) = 0 from w63 0 (by decide) (by decide), Int.zero_add]
    exact ew
  by_cases hg : xs.getD (i * 64 + 24) 0 > 127
  · refine ⟨true, fun k hk => ?_, fun h => by cases h⟩
    obtain ⟨k, rfl⟩ : ∃ j, k = j + 1 := ⟨k - 1, by omega⟩
    unfold beryllaw20_told.f
    rw [beryllaw20_told.l0, if_pos (by decide), ea, if_pos (Int.natCast_nonneg _), if_pos (Int.ofNat_lt.2 hlt), if_pos rfl, er, ew, if_pos hg]
  · refine ⟨decide (numb (((blkL xs i).drop 24).take 8) ≥ v), fun k hk => ?_, fun h => ?_⟩
    · obtain ⟨k, rfl⟩ : ∃ j, k = j + 1 := ⟨k - 1, by omega⟩
      have hk7 : 7 < k := by omega
      have hgo := told_go xs hl hb i v hi (by rw [h0]; exact Int.not_lt.1 hg) 7 1 k rfl hk7 (Nat.le_refl _)
      have hs : ((blkL xs i).drop 24).take 1 = [xs.getD (i * 64 + 24) 0] := by
        have := List.take_add_one (l := (blkL xs i).drop 24) (i := 0)
        rw [h1] at this
        simpa using this
      rw [hs] at hgo
      have hn : numb [xs.getD (i * 64 + 24) 0] = xs.getD (i * 64 + 24) 0 := by simp [numb]
      rw [hn] at hgo
      have e1 : wrap64 ((24 : Int) + 1) = ((24 + 1 : Nat) : Int) := w63 25 (by decide) (by decide)
      unfold beryllaw20_told.f
      rw [beryllaw20_told.l0, if_pos (by decide), ea, if_pos (Int.natCast_nonneg _), if_pos (Int.ofNat_lt.2 hlt), if_pos rfl, er, ew, if_neg hg, ew2, e1]
      exact hgo
    · unfold verB
      exact Int.not_le.1 (of_decide_eq_false h)
end Go.Proofs.Ytcdpkdehogcjnaa.Print

/-! There and back, in plain Lean. -/
namespace Go.Proofs.Ytcdpkdehogcjnaa.Print
open Go Go.RowKit Go.Proofs.YtcdpkdehogcjnaaW.PrintWords Go.Proofs.YtcdpkdehogcjnaaW.PrintLast Go.Proofs.YtcdpkdehogcjnaaW.PrintMore

/-! the free blocks as numbers -/
def freeN (used : List Nat) : Nat → Nat → List Nat
  | _, 0 => []
  | i, k + 1 => if used.contains i then freeN used (i + 1) k else i :: freeN used (i + 1) k
theorem freeL_N (u : List Nat) : ∀ k i, freeL u i k = castL (freeN u i k)
  | 0, _ => rfl
  | k + 1, i => by
    unfold freeL freeN
    split
    · exact freeL_N u k (i + 1)
    · rw [freeL_N u k (i + 1)]; rfl
theorem freeN_mem (u : List Nat) : ∀ (k i x : Nat), x ∈ freeN u i k → i ≤ x ∧ x < i + k ∧ u.contains x = false
  | 0, _, _, h => by simp [freeN] at h
  | k + 1, i, x, h => by
    unfold freeN at h
    split at h
    · obtain ⟨h1, h2, h3⟩ := freeN_mem u k (i + 1) x h
      exact ⟨by omega, by omega, h3⟩
    · rename_i hc
      rcases List.mem_cons.1 h with rfl | h
      · exact ⟨Nat.le_refl _, by omega, by simpa using hc⟩
      · obtain ⟨h1, h2, h3⟩ := freeN_mem u k (i + 1) x h
        exact ⟨by omega, by omega, h3⟩
theorem freeN_nodup (u : List Nat) : ∀ (k i : Nat), (freeN u i k).Nodup
  | 0, _ => by simp [freeN]
  | k + 1, i => by
    unfold freeN
    split
    · exact freeN_nodup u k (i + 1)
    · refine List.nodup_cons.2 ⟨fun h => ?_, freeN_nodup u k (i + 1)⟩
      have := (freeN_mem u k (i + 1) i h).1
      omega
/-! numbers and their bytes -/
theorem numb_word (n : Nat) (h : n < 65536) : numb (wordL n) = n := by simp [numb, wordL]; omega
theorem long_step (n p : Int) (hp : 0 < p) : 256 * (n / (256 * p)) + n / p % 256 = n / p := by
  rw [Int.mul_comm 256 p, ← Int.ediv_ediv_of_nonneg (by omega)]
  omega
theorem numb_long (n : Int) (h0 : 0 ≤ n) (h1 : n < 18446744073709551616) : numb (longL n) = n := by
  have s7 : n / 72057594037927936 % 256 = n / 72057594037927936 := by omega
  have s6 := long_step n 281474976710656 (by omega)
  have s5 := long_step n 1099511627776 (by omega)
  have s4 := long_step n 4294967296 (by omega)
  have s3 := long_step n 16777216 (by omega)
  have s2 := long_step n 65536 (by omega)
  have s1 := long_step n 256 (by omega)
  have s0 := long_step n 1 (by omega)
  simp only [Int.ediv_one] at s0
  simp only [Int.reduceMul] at s6 s5 s4 s3 s2 s1 s0
  simp only [longL, numb, List.foldl_cons, List.foldl_nil, Int.mul_zero, Int.zero_add]
  rw [s7, s6, s5, s4, s3, s2, s1, s0]
theorem bytes_word (n : Int) : IsBytes (wordL n) := by intro x hx; simp [wordL] at hx; omega
theorem bytes_long (n : Int) : IsBytes (longL n) := by intro x hx; simp [longL] at hx; omega
/-! records and their bytes -/
theorem recs_back : ∀ (l : List S62) (f : Nat) (last : Int), askedR (some last) l = 0 → (recsB l).length ≤ f → recsF f last (recsB l) = some l
  | [], f, last, _, _ => by cases f <;> rfl
  | r :: l, f, last, ha, hf => by
    rw [recsB_cons] at hf ⊢
    have hrl := recB_len r
    rw [List.length_append] at hf
    obtain ⟨f, rfl⟩ : ∃ j, f = j + 1 := ⟨f - 1, by omega⟩
    rw [askedR_cons] at ha
    by_cases h1 : r.f0 < 1
    · rw [if_pos h1] at ha; omega
    rw [if_neg h1] at ha
    by_cases h2 : r.f0 > 4611686018427387904
    · rw [if_pos h2] at ha; omega
    rw [if_neg h2] at ha
    by_cases h3 : (r.f1.length : Int) > 4000
    · rw [if_pos h3] at ha; omega
    rw [if_neg h3] at ha
    by_cases h4 : r.f0 ≤ last
    · simp only [if_pos h4] at ha; omega
    simp only [if_neg h4] at ha
    have ih := recs_back l f r.f0 ha (by omega)
    have e8 : (recB r ++ recsB l).take 8 = longL r.f0 := by
      unfold recB
      rw [List.append_assoc]
      exact List.take_left' (by simp [longL])
    have d8 : (recB r ++ recsB l).drop 8 = wordL r.f1.length ++ (r.f1 ++ recsB l) := by
      unfold recB
      rw [List.append_assoc, List.append_assoc]
      exact List.drop_left' (by simp [longL])
    have d10 : (recB r ++ recsB l).drop 10 = r.f1 ++ recsB l := by
      rw [show 10 = 8 + 2 from rfl, ← List.drop_drop, d8]
      exact List.drop_left' (by simp [wordL])
    have hN : recN (recB r ++ recsB l) = r.f0 := by
      unfold recN
      rw [e8]
      exact numb_long _ (by omega) (by omega)
    have hS : recS (recB r ++ recsB l) = r.f1.length := by
      unfold recS
      rw [d8, List.take_left' (by simp [wordL])]
      exact numb_word _ (by omega)
    have hok : RecOk (recB r ++ recsB l).length last (recB r ++ recsB l) := by
      refine ⟨by rw [List.length_append]; omega, ?_, ?_, ?_, ?_, ?_⟩
      · rw [hN]; omega
      · rw [hN]; omega
      · rw [hN]; omega
      · rw [hS]; omega
      · rw [hS, List.length_append]; omega
    rw [recsF, if_neg (by rw [List.length_append]; omega), if_pos hok, hN, hS, Int.toNat_natCast, ← List.drop_drop, d10, List.drop_left' rfl, List.take_left' rfl, ih]
    rfl
theorem asked_back (l : List S62) (ha : askedF l = 0) : recsF (recsB l).length 0 (recsB l) = some l :=
  recs_back l _ 0 (by rw [asked_zero]; exact ha) (Nat.le_refl _)
/-! pieces -/
theorem piece_eq (bs : List Int) (m k : Nat) (hk : k < m) (hm : bs.length ≤ 62 * m) :
    chunk bs k ++ List.replicate (62 - (chunk bs k).length) 0 = ((bs ++ List.replicate (62 * m - bs.length) (0 : Int)).drop (62 * k)).take 62 := by
  have hcl : (chunk bs k).length = min 62 (bs.length - 62 * k) := by simp [chunk]
  have hk2 : 62 * k + 62 ≤ 62 * m := by omega
  apply List.ext_getElem?
  intro q
  rw [List.getElem?_append, List.getElem?_take, List.getElem?_drop, List.getElem?_append, List.getElem?_replicate, List.getElem?_replicate, hcl]
  by_cases h1 : q < min 62 (bs.length - 62 * k)
  · rw [if_pos h1, if_pos (by omega), if_pos (by omega)]
    unfold chunk
    rw [List.getElem?_take, if_pos (by omega), List.getElem?_drop]
  · rw [if_neg h1]
    by_cases h2 : q < 62
    · rw [if_pos h2, if_pos (by omega), if_neg (by omega), if_pos (by omega)]
    · rw [if_neg h2, if_neg (by omega)]
/-! the chain -/
def nextOf (F : Nat → Nat) (m k : Nat) : Nat := if k < m then F k else 0
theorem chain_back (ys : List Int) (nb m : Nat) (F : Nat → Nat) (B : List Int) (hn : nb ≤ 256) (hblk : ∀ k, k < m → blkL ys (F k) = wordL (nextOf F m (k + 1)) ++ (B.drop (62 * k)).take 62)
    (h2 : ∀ k, k < m → 2 ≤ F k ∧ F k < nb) (hinj : ∀ i k, i < k → k < m → F i ≠ F k) : ∀ d k, k + d = m → chainF ys nb d (nextOf F m k) ((List.range k).map F) (B.take (62 * k)) = some ((List.range m).map F, B.take (62 * m)) := by
  intro d
  induction d with
  | zero =>
    intro k hk
    obtain rfl : k = m := by omega
    have e0 : nextOf F k k = 0 := if_neg (Nat.lt_irrefl k)
    rw [e0, chainF, if_pos rfl]
  | succ d ih =>
    intro k hk
    have hkm : k < m := by omega
    have e : nextOf F m k = F k := if_pos hkm
    have hc : ((List.range k).map F).contains (F k) = false := by
      rw [Bool.eq_false_iff]
      intro hc
      obtain ⟨i, hi, he⟩ := List.mem_map.1 (List.contains_iff_mem.1 hc)
      exact hinj i k (List.mem_range.1 hi) hkm he
    have hnx : nextOf F m (k + 1) < 65536 := by
      unfold nextOf
      split
      · have := (h2 (k + 1) (by assumption)).2
        omega
      · omega
    obtain ⟨g2, g3⟩ := h2 k hkm
    rw [e, chainF, if_pos ⟨g2, g3, hc⟩, hblk k hkm, List.take_left' (by simp [wordL]), List.drop_left' (by simp [wordL]), numb_word _ hnx, Int.toNat_natCast]
    have := ih (k + 1) (by omega)
    rw [List.range_succ, List.map_append, show 62 * (k + 1) = 62 * k + 62 by omega, List.take_add] at this
    exact this
end Go.Proofs.Ytcdpkdehogcjnaa.Print

/-! Save and Drop. -/
namespace Go.Proofs.Ytcdpkdehogcjnaa.Print
open Go Go.RowKit Go.Deep Go.Proofs.YtcdpkdehogcjnaaW.PrintWords Go.Proofs.YtcdpkdehogcjnaaW.PrintLast Go.Proofs.YtcdpkdehogcjnaaW.PrintMore

/-- a row of one's own as records lie, and what they hold as long as nothing but the row is written -/
theorem rawsR_of {w : World} {base : Nat} {ok : Nat → Prop} {v : Value} {xs : List S62} (h : Kd.R k62 62 w base ok v xs) :
    ∃ rs : List Raw, Kd.R kRaw 62 w base (fun _ => True) v rs ∧ rs.length = xs.length ∧ ∀ w', w.grownBy w' v.ownBlock → RawsAre w' rs xs := by
  obtain ⟨_, inner, ho, hr⟩ := h
  have each : ∀ j, j < xs.length → ∃ r : Raw, ∃ x, xs[j]? = some x ∧ (inner.drop (j * 2)).take 2 = [.int .i64 r.1, sliceV r.2] ∧ ∀ w', w.grownBy w' v.ownBlock → RawIs w' r x := by
    intro j hj
    have hM := hr.2 j xs[j] (List.getElem?_eq_getElem hj)
    obtain ⟨A1, c1, hcs, hl, hC⟩ := k62_open (k62.K_of_M hM)
    refine ⟨(xs[j].f0, A1, xs[j].f1.length, c1), xs[j], List.getElem?_eq_getElem hj, hcs, fun w' hg => ⟨rfl, rfl, hl, ?_⟩⟩
    obtain ⟨A2, c2, hcs2, hl2, hC2⟩ := k62_open (k62.K_of_M (Kd.M_grown hM hg (fun k hk => hk.2)))
    rw [hcs] at hcs2
    injection hcs2 with _ h2
    injection h2 with h2 _
    injection h2 with h2 _ _
    rw [← h2] at hC2
    exact hC2
  haveI : Inhabited Raw := ⟨(0, none, 0, 0)⟩
  obtain ⟨y, hy⟩ := choose_lt each
  refine ⟨(List.range xs.length).map y, ⟨fun _ _ => trivial, inner, by rw [List.length_map, List.length_range]; exact ho, by rw [List.length_map, List.length_range]; exact hr.1, fun j p hj => ?_⟩, by simp, fun w' hg => ⟨by simp, fun i r x hi hx => ?_⟩⟩
  · rw [List.getElem?_map] at hj
    obtain ⟨i, hi, rfl⟩ := Option.map_eq_some_iff.1 hj
    obtain ⟨hjl, hji⟩ := List.getElem?_eq_some_iff.1 hi
    simp at hjl hji
    subst hji
    obtain ⟨x, _, q0, _⟩ := hy j hjl
    have q0 : (inner.drop (j * kRaw.sz)).take kRaw.sz = [.int .i64 (y j).1, sliceV (y j).2] := q0
    rw [q0]
    exact kRaw_mkM _ _ _ _
  · rw [List.getElem?_map] at hi
    obtain ⟨j, hj, rfl⟩ := Option.map_eq_some_iff.1 hi
    obtain ⟨hjl, hji⟩ := List.getElem?_eq_some_iff.1 hj
    simp at hjl hji
    subst hji
    obtain ⟨x', hx', _, q⟩ := hy i hjl
    rw [hx'] at hx
    cases hx
    exact q w' hg

/-! what saving makes of records -/
def BodyIs (w : World) (s : Sl) (b : List Int) : Prop := s.2.1 = b.length ∧ b.length ≤ s.2.2 ∧ Kd.C (Kd.int .u8) w s.1 b.length b
def mapP (l : List S62) : List (Int × List Int) := l.foldl (fun m r => mput m r.f0 r.f1) []
def saveP (l : List S62) : List S62 := (sortL ((mapP l).map (·.1))).map fun n => ⟨n, (mget (mapP l) n).getD []⟩
inductive MRel (w : World) : List (Int × Sl) → List (Int × List Int) → Prop
  | nil : MRel w [] []
  | cons {k : Int} {s : Sl} {b : List Int} {m : List (Int × Sl)} {n : List (Int × List Int)} : BodyIs w s b → MRel w m n → MRel w ((k, s) :: m) ((k, b) :: n)
theorem MRel.put {w : World} {m : List (Int × Sl)} {n : List (Int × List Int)} (h : MRel w m n) {k : Int} {s : Sl} {b : List Int} (hb : BodyIs w s b) : MRel w (mput m k s) (mput n k b) := by
  induction h with
  | nil => exact .cons hb .nil
  | @cons k' s' b' m n hb' h ih =>
    unfold mput
    by_cases he : k = k'
    · rw [if_pos he, if_pos he]
      exact .cons hb h
    · rw [if_neg he, if_neg he]
      exact .cons hb' ih
theorem MRel.keys {w : World} {m : List (Int × Sl)} {n : List (Int × List Int)} (h : MRel w m n) : keysM m = n.map (·.1) := by
  induction h with
  | nil => rfl
  | cons _ _ ih => simp only [keysM, List.map_cons] at ih ⊢; rw [ih]
theorem MRel.get {w : World} {m : List (Int × Sl)} {n : List (Int × List Int)} (h : MRel w m n) (k : Int) : BodyIs w ((mget m k).getD (none, 0, 0)) ((mget n k).getD []) := by
  induction h with
  | nil => exact ⟨rfl, Nat.le_refl _, Kd.C_nil _ _⟩
  | @cons k' s' b' m n hb' h ih =>
    by_cases he : k = k'
    · have e1 : mget ((k', s') :: m) k = some s' := by simp [mget, he]
      have e2 : mget ((k', b') :: n) k = some b' := by simp [mget, he]
      rw [e1, e2]
      exact hb'
    · have e1 : mget ((k', s') :: m) k = mget m k := by simp [mget, he]
      have e2 : mget ((k', b') :: n) k = mget n k := by simp [mget, he]
      rw [e1, e2]
      exact ih
theorem raws_cons {w : World} {r : Raw} {rs : List Raw} {x : S62} {xs : List S62} (h : RawsAre w (r :: rs) (x :: xs)) : RawIs w r x ∧ RawsAre w rs xs :=
  ⟨h.2 0 r x rfl rfl, by have := h.1; simpa using this, fun i r' x' hr hx => h.2 (i + 1) r' x' hr hx⟩
theorem map_rel {w : World} : ∀ {rs : List Raw} {xs : List S62} {m : List (Int × Sl)} {n : List (Int × List Int)}, RawsAre w rs xs → MRel w m n → MRel w (rs.foldl (fun m r => mput m r.1 r.2) m) (xs.foldl (fun m r => mput m r.f0 r.f1) n)
  | [], [], _, _, _, h => h
  | [], _ :: _, _, _, h, _ => by have := h.1; simp at this
  | _ :: _, [], _, _, h, _ => by have := h.1; simp at this
  | r :: rs, x :: xs, m, n, h, hm => by
    obtain ⟨h1, h2⟩ := raws_cons h
    rw [List.foldl_cons, List.foldl_cons]
    refine map_rel h2 ?_
    rw [h1.1]
    exact hm.put h1.2
theorem save_rel {w : World} {rs : List Raw} {xs : List S62} (h : RawsAre w rs xs) : RawsAre w (saveRaw rs) (saveP xs) := by
  have hm : MRel w (mapF rs) (mapP xs) := map_rel h .nil
  have hk := hm.keys
  unfold saveRaw saveP outRaw
  rw [hk]
  refine ⟨by simp, fun i r x hr hx => ?_⟩
  rw [List.getElem?_map] at hr hx
  obtain ⟨n, hn, rfl⟩ := Option.map_eq_some_iff.1 hr
  obtain ⟨n', hn', rfl⟩ := Option.map_eq_some_iff.1 hx
  rw [hn] at hn'
  cases hn'
  exact ⟨rfl, hm.get n⟩
theorem raws_app {w : World} {r1 r2 : List Raw} {x1 x2 : List S62} (h1 : RawsAre w r1 x1) (h2 : RawsAre w r2 x2) : RawsAre w (r1 ++ r2) (x1 ++ x2) := by
  refine ⟨by rw [List.length_append, List.length_append, h1.1, h2.1], fun i r x hr hx => ?_⟩
  rw [List.getElem?_append] at hr hx
  rw [h1.1] at hr
  by_cases hi : i < x1.length
  · rw [if_pos hi] at hr hx
    exact h1.2 i r x hr hx
  · rw [if_neg hi] at hr hx
    exact h2.2 _ r x hr hx
theorem raws_keep {w : World} (ns : List Int) : ∀ {rs : List Raw} {xs : List S62}, RawsAre w rs xs → RawsAre w (keepL (fun r => ns.contains r.1) rs) (xs.filter fun r => !ns.contains r.f0)
  | [], [], h => h
  | [], _ :: _, h => by have := h.1; simp at this
  | _ :: _, [], h => by have := h.1; simp at this
  | r :: rs, x :: xs, h => by
    obtain ⟨h1, h2⟩ := raws_cons h
    have ih := raws_keep ns h2
    unfold keepL at ih ⊢
    rw [List.filter_cons, List.filter_cons]
    simp only [h1.1] at ih ⊢
    split
    · refine ⟨by have := ih.1; simpa using this, fun i r' x' hr hx => ?_⟩
      cases i with
      | zero => cases hr; cases hx; exact h1
      | succ i => exact ih.2 i r' x' hr hx
    · exact ih
theorem RawsAre.below {w w1 : World} {rs : List Raw} {xs : List S62} (h : RawsAre w rs xs) (hb : Below w.heap.size w w1) : RawsAre w1 rs xs := ⟨h.1, fun i r x hr hx => (h.2 i r x hr hx).below hb⟩

def savedL (l1 rs : List S62) : List S62 := saveP (rs ++ l1)
def leftL (ns : List Int) (rs : List S62) : List S62 := rs.filter fun r => !ns.contains r.f0

theorem save_do (A1 : Option Addr) (c1 : Nat) (l1 : List S62) (b : Nat) (w : World) (hb : w.cell? ⟨b, 0, none⟩ = some (.slice A1 l1.length c1)) (hr1 : Kd.C k62 w A1 l1.length l1) (hc1 : l1.length ≤ c1) (hl : l1.length ≤ 100000000) :
    DoOk 60 b w (savedL l1) := by
  intro w2 B mb vr rs hR hB hBB hrs
  obtain ⟨r1, hC1, hA1⟩ := raws_of hr1
  obtain ⟨ro, hRo, hro, hAo⟩ := rawsR_of hR
  obtain ⟨A0, c0, rfl, hc0, hC0⟩ := Kd.R_reads hRo
  have hbl : b < w.heap.size := World.block_lt_of_cell? w ⟨b, 0, none⟩ hb
  have hb2 : w2.cell? ⟨b, 0, none⟩ = some (.slice A1 l1.length c1) := (hB.cell (p := ⟨b, 0, none⟩) hbl).trans hb
  refine (save1_any A0 ro.length c0 ro b A1 l1.length c1 r1 w2 hC0 hc0 hb2 (Kd.C_below hC1 hB) hc1 (by rw [hA1.1, hro]; omega)).mono ?_
  rintro e w3 ⟨v, rfl, hR3, hB3⟩
  have hA := save_rel (raws_app ((hAo w2 (World.grownBy.refl _ _)).below hB3) ((hA1.below hB).below hB3))
  obtain ⟨A, c, rfl, hc, hC⟩ := Kd.R_reads hR3
  have hlen : (saveRaw (ro ++ r1)).length = (savedL l1 rs).length := hA.1
  rw [hlen] at hc hC ⊢
  exact ⟨A, c, rfl, hc, C_of_raws hC hA, grown_of hB3 _⟩

theorem contains_any (A1 : Option Addr) (c1 : Nat) (ns : List Int) (x : Int) (w : World) (hr : Kd.C (Kd.int .i64) w A1 ns.length ns) (hl : ns.length ≤ 1000000000) :
    Calls Try.prog 59 #[.slice A1 ns.length c1, .int .i64 x] w fun e w' => e = .returned (.bool (ns.contains x)) ∧ w' = w := by
  by_cases h0 : ns.length = 0
  · obtain rfl : ns = [] := List.eq_nil_of_length_eq_zero h0
    exact Try.slices_Contains_int_empty A1 c1 x w
  · obtain ⟨ad, x0, rfl, hx, _⟩ := cellN hr 0 (by omega) (Nat.le_refl _)
    have hs : ad.spot = none := by
      cases hsp : ad.spot with
      | none => rfl
      | some q =>
        unfold World.cell? at hx
        simp [Addr.add, hsp] at hx
        split at hx <;> simp at hx
    obtain ⟨b, off, sp⟩ := ad
    have hs : sp = none := hs
    subst hs
    refine (Try.slices_Contains_int b off ns.length c1 ns x w (Nat.le_refl _) (by omega) (fun j hj => ?_)).mono ?_
    · obtain ⟨ad, y, e, hy, HY⟩ := cellN hr j hj (Nat.le_refl _)
      injection e with e
      subst e
      rw [List.getD_eq_getElem?_getD, HY.out]
      have e : (⟨b, off, none⟩ : Addr).add j = ⟨b, off + j, none⟩ := by
        unfold Addr.add
        split
        · rename_i h; rw [h, Nat.add_zero]
        · rfl
      rw [e] at hy
      exact hy
    · rintro e w' ⟨rfl, rfl⟩
      exact ⟨by rw [List.take_length], rfl⟩
theorem drop11_any (A1 : Option Addr) (c1 : Nat) (ns : List Int) (b : Nat) (r : Raw) (w : World) (hb : w.cell? ⟨b, 0, none⟩ = some (.slice A1 ns.length c1)) (hr1 : Kd.C (Kd.int .i64) w A1 ns.length ns) (hl : ns.length ≤ 1000000000) :
    Calls Try.prog 58 #[.agg #[.int .i64 r.1, sliceV r.2], .pointer (some ⟨b, 0, none⟩)] w fun e w' => e = .returned (.bool (ns.contains r.1)) ∧ Below w.heap.size w w' := by
  obtain ⟨num, A, n, c⟩ := r
  simp only [sliceV]
  have hbl : b < w.heap.size := World.block_lt_of_cell? w ⟨b, 0, none⟩ hb
  have HR1 := Aside0.mk hr1
  clear hr1
  have hb1 : ∀ ob, (w.alloc ob).cell? ⟨b, 0, none⟩ = some (.slice A1 ns.length c1) := fun ob => ((below_alloc (Below.refl _ _) ob).cell (p := ⟨b, 0, none⟩) hbl).trans hb
  go_enter Try.func58, Try.ntmps58
  have HB1 := fun ob => below_alloc (Below.refl w.heap.size w) ob
  have HC1 := fun ob => Kd.C_alloc HR1.out ob
  go_wp2_with fail
  refine (contains_any A1 c1 ns num _ (HC1 _) hl).mono ?_
  rintro e w' ⟨rfl, rfl⟩
  go_wp2_with fail
  go_returns
  exact ⟨by simp [List.contains_eq_mem], HB1 _⟩
theorem C_empty (W : World) (A : Option Addr) : Kd.C kRaw W A 0 [] := ⟨rfl, by simp, fun h => absurd h (Nat.lt_irrefl 0)⟩
theorem delete_empty (A : Option Addr) (c : Nat) (fn : FuncId) (b : Nat) (p : Raw → Bool) (w0 W : World) (eg : ∀ args w, (callFunc fn args).run Try.prog w = .ok (.enter fn args) w) (hp : PredOk fn b w0 p) (hB : Below w0.heap.size w0 W) :
    Calls Try.prog 57 #[.slice A 0 c, .func (.func fn) #[] #[.pointer (some ⟨b, 0, none⟩)]] W fun e w' => e = .returned (.slice A 0 c) ∧ Below W.heap.size W w' := by
  have hI := index_raw fn b p w0 W A c [] (C_empty W A) (Nat.zero_le _) (by simp) eg hp hB
  go_enter Try.func57, Try.ntmps57
  have HI := Aside0.mk hI
  clear hI
  go_wp2_with fail
  refine HI.out.mono ?_
  rintro e w1 ⟨r, rfl, hF, hB1⟩
  rcases hF with ⟨rfl, _⟩ | ⟨i0, hi0, _⟩
  · have HB1 := Aside0.mk hB1
    clear hB1
    go_wp2_with fail
    go_returns
    exact ⟨rfl, HB1.out⟩
  · simp at hi0
set_option maxRecDepth 100000 in
theorem drop1_any (b : Nat) (p : Raw → Bool) (w0 W : World) (base : Nat) (v : Value) (l : List Raw) (hR : Kd.R kRaw 62 W base (fun _ => True) v l) (hl : l.length ≤ 1000000000)
    (hp : PredOk 58 b w0 p) (hB : Below w0.heap.size w0 W) (hb0 : w0.heap.size ≤ base) :
    Calls Try.prog 56 #[v, .pointer (some ⟨b, 0, none⟩)] W fun e w' => ∃ A c, e = .returned (.slice A (keepL p l).length c) ∧ (keepL p l).length ≤ c ∧ Kd.C kRaw w' A (keepL p l).length (keepL p l) ∧ W.grownBy w' v.ownBlock := by
  have hmf : ∀ (fn : Fn) (first cap : Array Value) (w : World), (Instr.makeFunc fn first cap).run Try.prog w = .ok (.func fn first cap) w := fun _ _ _ _ => rfl
  have eg : ∀ args w, (callFunc 58 args).run Try.prog w = .ok (.enter 58 args) w := fun _ _ => rfl
  by_cases h0 : l = []
  · subst h0
    obtain ⟨A, c, rfl⟩ := Kd.R_slice hR
    have HD := Aside0.mk (delete_empty A c 58 b p w0 W eg hp hB)
    clear hR hp hB eg
    simp only [List.length_nil]
    go_enter Try.func56, Try.ntmps56
    go_wp2_with fail
    refine HD.out.mono ?_
    rintro e w1 ⟨rfl, hB1⟩
    have HB1 := Aside0.mk hB1
    clear hB1 HD
    go_wp2_with fail
    go_returns
    exact ⟨A, c, rfl, Nat.zero_le _, C_empty _ _, grown_of HB1.out _⟩
  · obtain ⟨g, cap, rfl, _, _, _⟩ := Kd.R_form hR (List.length_pos_iff.2 h0)
    obtain ⟨ad, had⟩ : ∃ ad : Addr, ad = ⟨g, 0, none⟩ := ⟨_, rfl⟩
    have hD := delete_raw 58 b p w0 W base g cap ad l ⟨had⟩ hR hl eg hp hB hb0
    rw [had] at hD
    have HD := Aside0.mk hD
    have HLE : Aside0 ((keepL p l).length ≤ cap) := ⟨Nat.le_trans (List.length_filter_le _ _) (Kd.R_reads' hR).2.1⟩
    clear hD hR hp hB had eg
    go_enter Try.func56, Try.ntmps56
    go_wp2_with fail
    refine HD.out.mono ?_
    rintro e w1 ⟨rfl, hC, hG⟩
    have HC := Aside0.mk hC
    have HG := Aside0.mk hG
    clear hC hG HD
    go_wp2_with fail
    go_returns
    exact ⟨some ⟨g, 0, none⟩, cap, rfl, HLE.out, HC.out, HG.out⟩
theorem drop_do (A1 : Option Addr) (c1 : Nat) (ns : List Int) (b : Nat) (w : World) (hb : w.cell? ⟨b, 0, none⟩ = some (.slice A1 ns.length c1)) (hr1 : Kd.C (Kd.int .i64) w A1 ns.length ns) (hl : ns.length ≤ 1000000000) :
    DoOk 56 b w (leftL ns) := by
  intro w2 B mb vr rs hR hB hBB hrs
  obtain ⟨ro, hRo, hro, hAo⟩ := rawsR_of hR
  have hbl : b < w.heap.size := World.block_lt_of_cell? w ⟨b, 0, none⟩ hb
  have hp : PredOk 58 b w (fun r => ns.contains r.1) := fun W r hW =>
    drop11_any A1 c1 ns b r W ((hW.cell (p := ⟨b, 0, none⟩) hbl).trans hb) (Kd.C_below hr1 hW) hl
  refine (drop1_any b _ w w2 B vr ro hRo (by omega) hp hB hBB).mono ?_
  rintro e w3 ⟨A, c, rfl, hc, hC, hG⟩
  have hA := raws_keep ns (hAo w3 hG)
  have hlen : (keepL (fun r => ns.contains r.1) ro).length = (leftL ns rs).length := hA.1
  rw [hlen] at hc hC ⊢
  exact ⟨A, c, rfl, hc, C_of_raws hC hA, hG⟩
end Go.Proofs.Ytcdpkdehogcjnaa.Print

/-! Save and Drop: what they answer. -/
namespace Go.Proofs.Ytcdpkdehogcjnaa.Print
open Go Go.RowKit Go.Deep Go.Proofs.YtcdpkdehogcjnaaW.PrintWords Go.Proofs.YtcdpkdehogcjnaaW.PrintLast Go.Proofs.YtcdpkdehogcjnaaW.PrintMore

/-! sorted records -/
def Inc (l : List S62) : Prop := l.Pairwise fun x y => x.f0 < y.f0
theorem asked_some : ∀ (l : List S62) (n : Int), askedR (some n) l = 0 → (∀ x ∈ l, n < x.f0 ∧ 1 ≤ x.f0 ∧ x.f0 ≤ 4611686018427387904 ∧ x.f1.length ≤ 4000) ∧ Inc l
  | [], _, _ => ⟨by simp, List.Pairwise.nil⟩
  | r :: l, n, h => by
    rw [askedR_cons] at h
    by_cases h1 : r.f0 < 1
    · rw [if_pos h1] at h; omega
    rw [if_neg h1] at h
    by_cases h2 : r.f0 > 4611686018427387904
    · rw [if_pos h2] at h; omega
    rw [if_neg h2] at h
    by_cases h3 : (r.f1.length : Int) > 4000
    · rw [if_pos h3] at h; omega
    rw [if_neg h3] at h
    by_cases h4 : r.f0 ≤ n
    · simp only [if_pos h4] at h; omega
    simp only [if_neg h4] at h
    obtain ⟨q1, q2⟩ := asked_some l r.f0 h
    refine ⟨fun x hx => ?_, List.Pairwise.cons (fun x hx => (q1 x hx).1) q2⟩
    rcases List.mem_cons.1 hx with rfl | hx
    · exact ⟨by omega, by omega, by omega, by omega⟩
    · obtain ⟨p1, p2⟩ := q1 x hx
      exact ⟨by omega, p2⟩
theorem asked_inc {l : List S62} (h : askedF l = 0) : (∀ x ∈ l, 1 ≤ x.f0 ∧ x.f0 ≤ 4611686018427387904 ∧ x.f1.length ≤ 4000) ∧ Inc l := by
  have h : askedR (some 0) l = 0 := by rw [asked_zero]; exact h
  obtain ⟨h1, h2⟩ := asked_some l 0 h
  exact ⟨fun x hx => (h1 x hx).2, h2⟩
theorem inc_asked : ∀ (l : List S62) (n : Int), (∀ x ∈ l, n < x.f0 ∧ 1 ≤ x.f0 ∧ x.f0 ≤ 4611686018427387904 ∧ x.f1.length ≤ 4000) → Inc l → askedR (some n) l = 0
  | [], _, _, _ => askedR_nil _
  | r :: l, n, h, hi => by
    obtain ⟨h0, h1, h2, h3⟩ := h r (by simp)
    rw [askedR_cons, if_neg (by omega), if_neg (by omega), if_neg (by omega)]
    simp only
    rw [if_neg (by omega)]
    obtain ⟨q1, q2⟩ := List.pairwise_cons.1 hi
    exact inc_asked l r.f0 (fun x hx => ⟨q1 x hx, (h x (by simp [hx])).2⟩) q2
theorem asked_of {l : List S62} (h : ∀ x ∈ l, 1 ≤ x.f0 ∧ x.f0 ≤ 4611686018427387904 ∧ x.f1.length ≤ 4000) (hi : Inc l) : askedF l = 0 := by
  have := inc_asked l 0 (fun x hx => ⟨by have := (h x hx).1; omega, h x hx⟩) hi
  rw [asked_zero] at this
  exact this
theorem disk_asked0 {xs : List Int} (hb : IsBytes xs) {j : Nat} {st : HSt} (h : diskF xs = some (j, st)) : askedF st.recs = 0 := by
  obtain ⟨_, _, _, _, hh, _⟩ := disk_facts h
  unfold headF at hh
  simp only at hh
  split at hh
  · unfold headG at hh
    split at hh
    · cases hh
    · rename_i used all hc
      split at hh
      · rw [Option.map_eq_some_iff] at hh
        obtain ⟨rs, hr, rfl⟩ := hh
        have hball := chain_bytes _ _ hb _ _ _ _ _ _ hc (by intro x hx; simp at hx)
        rw [recs_parse _ _ _ (bytes_take hball _)] at hr
        cases hp : parseF _ _ with
        | none => rw [hp] at hr; cases hr
        | some l =>
          rw [hp, Option.bind_some] at hr
          split at hr
          · rename_i ha
            cases hr
            rw [asked_zero] at ha
            exact ha
          · cases hr
      · cases hh
  · cases hh
/-! what is saved -/
def lookP (l : List S62) (n : Int) : Option (List Int) := l.foldl (fun o r => if n = r.f0 then some r.f1 else o) none
theorem look_from (n : Int) : ∀ (l : List S62) (o : Option (List Int)), l.foldl (fun o r => if n = r.f0 then some r.f1 else o) o = (lookP l n).or o
  | [], o => rfl
  | r :: l, o => by
    unfold lookP
    rw [List.foldl_cons, List.foldl_cons, look_from n l, look_from n l (if n = r.f0 then some r.f1 else none)]
    cases lookP l n with
    | none => split <;> rfl
    | some b => rfl
theorem look_app (a b : List S62) (n : Int) : lookP (a ++ b) n = (lookP b n).or (lookP a n) := by
  unfold lookP
  rw [List.foldl_append]
  exact look_from n b _
theorem look_cons (r : S62) (l : List S62) (n : Int) : lookP (r :: l) n = (lookP l n).or (if n = r.f0 then some r.f1 else none) := by
  show l.foldl _ _ = _
  exact look_from n l _
theorem look_mem {n : Int} {b : List Int} : ∀ {l : List S62}, lookP l n = some b → (⟨n, b⟩ : S62) ∈ l
  | [], h => by cases h
  | r :: l, h => by
    rw [look_cons] at h
    cases hl : lookP l n with
    | none =>
      rw [hl, Option.none_or] at h
      split at h
      · rename_i e
        cases h
        rw [e]
        exact List.mem_cons_self
      · cases h
    | some b' =>
      rw [hl, Option.some_or] at h
      cases h
      exact List.mem_cons_of_mem _ (look_mem hl)
theorem look_inc {x : S62} : ∀ {l : List S62}, Inc l → x ∈ l → lookP l x.f0 = some x.f1
  | [], _, h => by cases h
  | r :: l, hi, h => by
    obtain ⟨q1, q2⟩ := List.pairwise_cons.1 hi
    rw [look_cons]
    rcases List.mem_cons.1 h with rfl | h
    · cases hl : lookP l x.f0 with
      | none => simp
      | some b =>
        have h2 := q1 _ (look_mem hl)
        simp at h2
    · rw [look_inc q2 h]
      rfl
theorem mapP_look (n : Int) (l : List S62) : mget (mapP l) n = lookP l n := by
  have go : ∀ (l : List S62) (m : List (Int × List Int)), mget (l.foldl (fun m r => mput m r.f0 r.f1) m) n = l.foldl (fun o r => if n = r.f0 then some r.f1 else o) (mget m n) := by
    intro l
    induction l with
    | nil => intro m; rfl
    | cons r l ih => intro m; rw [List.foldl_cons, List.foldl_cons, ih, mget_put]
  exact go l []
theorem keys_iff {β : Type} (n : Int) : ∀ (m : List (Int × β)), n ∈ m.map (·.1) ↔ (mget m n).isSome = true
  | [] => by simp [mget]
  | (k, v) :: m => by
    rw [List.map_cons, List.mem_cons, keys_iff n m]
    by_cases h : n = k
    · simp [mget, h]
    · simp [mget, h]
theorem put_nodup {β : Type} (k : Int) (v : β) : ∀ (m : List (Int × β)), (m.map (·.1)).Nodup → ((mput m k v).map (·.1)).Nodup
  | [], _ => by simp [mput]
  | (k', v') :: m, h => by
    unfold mput
    rw [List.map_cons, List.nodup_cons] at h
    split
    · rw [List.map_cons, List.nodup_cons]
      exact ⟨h.1, h.2⟩
    · rename_i e
      rw [List.map_cons, List.nodup_cons]
      refine ⟨fun hm => h.1 ?_, put_nodup k v m h.2⟩
      rw [keys_iff] at hm ⊢
      rw [mget_put, if_neg (fun e2 => e e2.symm)] at hm
      exact hm
theorem mapP_nodup (l : List S62) : ((mapP l).map (·.1)).Nodup := by
  have go : ∀ (l : List S62) (m : List (Int × List Int)), (m.map (·.1)).Nodup → ((l.foldl (fun m r => mput m r.f0 r.f1) m).map (·.1)).Nodup := by
    intro l
    induction l with
    | nil => intro m h; exact h
    | cons r l ih => intro m h; exact ih _ (put_nodup _ _ _ h)
  exact go l [] (by simp)
theorem sort_lt (ks : List Int) (h : ks.Nodup) : (sortL ks).Pairwise (· < ·) := by
  have h1 : (sortL ks).Pairwise fun x y => decide (x ≤ y) = true := List.pairwise_mergeSort (le := fun x y => decide (x ≤ y)) (fun a b c h1 h2 => by simp at h1 h2 ⊢; omega) (fun a b => by simp; omega) ks
  have h2 : (sortL ks).Nodup := (List.mergeSort_perm ks _).nodup_iff.2 h
  refine (h1.and h2).imp fun h => ?_
  obtain ⟨p, q⟩ := h
  simp at p
  omega
/-- what is saved, wholly told -/
theorem saveP_mem (l : List S62) (x : S62) : x ∈ saveP l ↔ lookP l x.f0 = some x.f1 := by
  unfold saveP
  rw [List.mem_map]
  have hk : ∀ n, n ∈ sortL ((mapP l).map (·.1)) ↔ (lookP l n).isSome = true := fun n => by
    rw [← mapP_look, ← keys_iff]
    exact (List.mergeSort_perm _ _).mem_iff
  constructor
  · rintro ⟨n, hn, rfl⟩
    have h2 := (hk n).1 hn
    rw [mapP_look]
    obtain ⟨b, hb⟩ := Option.isSome_iff_exists.1 h2
    show lookP l n = some ((lookP l n).getD [])
    rw [hb]
    rfl
  · intro h
    refine ⟨x.f0, (hk _).2 (by rw [h]; rfl), ?_⟩
    rw [mapP_look, h]
    rfl
theorem saveP_inc (l : List S62) : Inc (saveP l) := by
  unfold saveP Inc
  rw [List.pairwise_map]
  exact sort_lt _ (mapP_nodup l)
/-- sorted lists with the same members are the same -/
theorem inc_same : ∀ {a b : List S62}, Inc a → Inc b → (∀ x, x ∈ a ↔ x ∈ b) → a = b
  | [], [], _, _, _ => rfl
  | [], y :: b, _, _, h => by have := (h y).2 (by simp); cases this
  | x :: a, [], _, _, h => by have := (h x).1 (by simp); cases this
  | x :: a, y :: b, ha, hb, h => by
    obtain ⟨p1, p2⟩ := List.pairwise_cons.1 ha
    obtain ⟨q1, q2⟩ := List.pairwise_cons.1 hb
    have e : x = y := by
      rcases List.mem_cons.1 ((h x).1 (by simp)) with e | h1
      · exact e
      · rcases List.mem_cons.1 ((h y).2 (by simp)) with e | h2
        · exact e.symm
        · have h3 := q1 x h1
          have h4 := p1 y h2
          omega
    subst e
    congr 1
    refine inc_same p2 q2 fun z => ⟨fun hz => ?_, fun hz => ?_⟩
    · rcases List.mem_cons.1 ((h z).1 (by simp [hz])) with e | h1
      · subst e
        have := p1 z hz
        omega
      · exact h1
    · rcases List.mem_cons.1 ((h z).2 (by simp [hz])) with e | h1
      · subst e
        have := q1 z hz
        omega
      · exact h1
theorem inc_len : ∀ {a : List S62} {l : List S62}, a.Nodup → (∀ x ∈ a, x ∈ l) → a.length ≤ l.length
  | [], _, _, _ => Nat.zero_le _
  | x :: a, l, hn, h => by
    obtain ⟨h1, h2⟩ := List.nodup_cons.1 hn
    obtain ⟨s, t, rfl⟩ := List.append_of_mem (h x (by simp))
    have := inc_len (a := a) (l := s ++ t) h2 (fun y hy => by
      have := h y (by simp [hy])
      rcases List.mem_append.1 this with q | q
      · exact List.mem_append_left _ q
      · rcases List.mem_cons.1 q with rfl | q
        · exact absurd hy h1
        · exact List.mem_append_right _ q)
    simp at this ⊢
    omega
theorem inc_nodup {a : List S62} (h : Inc a) : a.Nodup := h.imp fun hlt e => by subst e; omega
theorem saveP_sub {l : List S62} {x : S62} (h : x ∈ saveP l) : x ∈ l := look_mem ((saveP_mem l x).1 h)
theorem saveP_len (l : List S62) : (saveP l).length ≤ l.length := inc_len (inc_nodup (saveP_inc l)) (fun _ h => saveP_sub h)

def disk_Save.f (l0 : List Int) (l1 : List S62) : Option (List S34 × Int) := if IsBytes l0 ∧ l1.length ≤ 100000000 then some (writeG l0 l1 (savedL l1)) else none
def disk_Drop.f (l0 : List Int) (ns : List Int) : Option (List S34 × Int) := if IsBytes l0 ∧ ns.length ≤ 1000000000 then some (writeG l0 [] (leftL ns)) else none
theorem bytes_le {l : List S62} (h : ∀ x ∈ l, x.f1.length ≤ 4000) (hl : l.length ≤ 1000000000) : (recsB l).length ≤ 70368744177664 := by
  have h1 := tot_le h
  rw [recs_len]
  omega
set_option maxRecDepth 100000 in
theorem disk_Save.calls (A0 : Option Addr) (c0 : Nat) (l0 : List Int) (A1 : Option Addr) (c1 : Nat) (l1 : List S62) (r1 : List S34) (r2 : Int) (w : World) (hr0 : Kd.C (Kd.int .u8) w A0 l0.length l0) (hc0 : l0.length ≤ c0)
    (hr1 : Kd.C k62 w A1 l1.length l1) (hc1 : l1.length ≤ c1) (h : disk_Save.f l0 l1 = some (r1, r2)) :
    Calls Try.prog 37 #[.slice A0 l0.length c0, .slice A1 l1.length c1] w fun e w' => ∃ v0_ : Value, e = .returned (.tuple #[v0_, .int .i64 r2]) ∧ Kd.R k34 34 w' w.heap.size (fun _ => True) v0_ r1 ∧ Below w.heap.size w w' := by
  unfold disk_Save.f at h
  by_cases hb : IsBytes l0 ∧ l1.length ≤ 100000000
  rotate_left
  · rw [if_neg hb] at h; exact absurd h (by simp)
  rw [if_pos hb] at h
  have hh := Option.some.inj h
  have hmf : ∀ (fn : Fn) (first cap : Array Value) (w : World), (Instr.makeFunc fn first cap).run Try.prog w = .ok (.func fn first cap) w := fun _ _ _ _ => rfl
  obtain ⟨w1, hw1⟩ : ∃ w1, w1 = w.alloc (.cells #[.slice A1 l1.length c1] 23) := ⟨_, rfl⟩
  have hB1 : Below w.heap.size w w1 := by rw [hw1]; exact below_alloc (Below.refl _ _) _
  have hx : w1.cell? ⟨w.heap.size, 0, none⟩ = some (.slice A1 l1.length c1) := by
    have := blk_cell (heap_alloc_new w (.cells #[.slice A1 l1.length c1] 23)) 0
    rw [hw1]; first | exact this | simp
  have hC := change_any 60 (savedL l1) A0 c0 l0 A1 c1 l1 w.heap.size w1 (Kd.C_below hr0 hB1) hc0 hb.1 (Kd.C_below hr1 hB1) hc1 (fun _ _ => rfl) (save_do A1 c1 l1 w.heap.size w1 hx (Kd.C_below hr1 hB1) hc1 hb.2) (fun j st hd ha => by
    obtain ⟨q1, _⟩ := asked_inc ha
    obtain ⟨q2, _⟩ := asked_inc (disk_asked0 hb.1 hd)
    have q3 := disk_recs hd
    refine bytes_le (fun x hx => ?_) ?_
    · rcases List.mem_append.1 (saveP_sub hx) with h | h
      · exact (q2 x h).2.2
      · exact (q1 x h).2.2
    · have := saveP_len (st.recs ++ l1)
      rw [List.length_append] at this
      unfold savedL
      omega)
  rw [hh] at hC
  have HC := Aside0.mk hC
  have HB1 := Aside0.mk hB1
  have HX := Aside0.mk hx
  have HW1 := Aside0.mk hw1
  clear h hr0 hr1 hb hh hC hB1
  rw [hw1] at hx
  clear hw1
  go_enter Try.func37, Try.ntmps37
  go_wp2_with fail
  rw [← HW1.out]
  refine HC.out.mono ?_
  rintro e w2 ⟨v, rfl, hR, hB⟩
  have HR := Aside0.mk hR
  have HB := Aside0.mk hB
  clear hR hB HC
  go_wp2_with fail
  go_returns
  exact ⟨v, rfl, Kd.R_lower HR.out HB1.out.size, HB1.out.trans (HB.out.mono HB1.out.size)⟩
set_option maxRecDepth 100000 in
theorem disk_Drop.calls (A0 : Option Addr) (c0 : Nat) (l0 : List Int) (A1 : Option Addr) (c1 : Nat) (l1 : List Int) (r1 : List S34) (r2 : Int) (w : World) (hr0 : Kd.C (Kd.int .u8) w A0 l0.length l0) (hc0 : l0.length ≤ c0)
    (hr1 : Kd.C (Kd.int .i64) w A1 l1.length l1) (hc1 : l1.length ≤ c1) (h : disk_Drop.f l0 l1 = some (r1, r2)) :
    Calls Try.prog 36 #[.slice A0 l0.length c0, .slice A1 l1.length c1] w fun e w' => ∃ v0_ : Value, e = .returned (.tuple #[v0_, .int .i64 r2]) ∧ Kd.R k34 34 w' w.heap.size (fun _ => True) v0_ r1 ∧ Below w.heap.size w w' := by
  unfold disk_Drop.f at h
  by_cases hb : IsBytes l0 ∧ l1.length ≤ 1000000000
  rotate_left
  · rw [if_neg hb] at h; exact absurd h (by simp)
  rw [if_pos hb] at h
  have hh := Option.some.inj h
  have hmf : ∀ (fn : Fn) (first cap : Array Value) (w : World), (Instr.makeFunc fn first cap).run Try.prog w = .ok (.func fn first cap) w := fun _ _ _ _ => rfl
  obtain ⟨w1, hw1⟩ : ∃ w1, w1 = w.alloc (.cells #[.slice A1 l1.length c1] 26) := ⟨_, rfl⟩
  have hB1 : Below w.heap.size w w1 := by rw [hw1]; exact below_alloc (Below.refl _ _) _
  have hx : w1.cell? ⟨w.heap.size, 0, none⟩ = some (.slice A1 l1.length c1) := by
    have := blk_cell (heap_alloc_new w (.cells #[.slice A1 l1.length c1] 26)) 0
    rw [hw1]; first | exact this | simp
  have hC := change_any 56 (leftL l1) A0 c0 l0 none 0 [] w.heap.size w1 (Kd.C_below hr0 hB1) hc0 hb.1 (Kd.C_nil _ _) (Nat.le_refl _) (fun _ _ => rfl) (drop_do A1 c1 l1 w.heap.size w1 hx (Kd.C_below hr1 hB1) hb.2) (fun j st hd ha => by
    obtain ⟨q2, _⟩ := asked_inc (disk_asked0 hb.1 hd)
    have q3 := disk_recs hd
    refine bytes_le (fun x hx => (q2 x (List.mem_filter.1 hx).1).2.2) ?_
    have := List.length_filter_le (fun r : S62 => !l1.contains r.f0) st.recs
    unfold leftL
    omega)
  rw [hh] at hC
  have HC := Aside0.mk hC
  have HB1 := Aside0.mk hB1
  have HW1 := Aside0.mk hw1
  clear h hr0 hr1 hb hh hC hB1 hx hw1
  go_enter Try.func36, Try.ntmps36
  go_wp2_with fail
  rw [← HW1.out]
  refine HC.out.mono ?_
  rintro e w2 ⟨v, rfl, hR, hB⟩
  have HR := Aside0.mk hR
  have HB := Aside0.mk hB
  clear hR hB HC
  go_wp2_with fail
  go_returns
  exact ⟨v, rfl, Kd.R_lower HR.out HB1.out.size, HB1.out.trans (HB.out.mono HB1.out.size)⟩
end Go.Proofs.Ytcdpkdehogcjnaa.Print

/-! The reference's Merged and Without, over records as they lie. -/
namespace Go.Proofs.Ytcdpkdehogcjnaa.Print
open Go Go.RowKit Go.Deep Go.Proofs.YtcdpkdehogcjnaaW.PrintWords Go.Proofs.YtcdpkdehogcjnaaW.PrintLast Go.Proofs.YtcdpkdehogcjnaaW.PrintMore

def mergeK {α : Type} (key : α → Int) : Nat → List α → List α → List α
  | 0, _, _ => []
  | _ + 1, [], [] => []
  | f + 1, [], y :: b => y :: mergeK key f [] b
  | f + 1, x :: a, [] => x :: mergeK key f a []
  | f + 1, x :: a, y :: b => if key x < key y then x :: mergeK key f a (y :: b) else if key x = key y then mergeK key f a (y :: b) else y :: mergeK key f (x :: a) b
theorem mk_left {α : Type} (key : α → Int) (f : Nat) (a b : List α) (i k : Nat) (hi : i < a.length) (hk : b.length ≤ k) : mergeK key (f + 1) (a.drop i) (b.drop k) = a[i] :: mergeK key f (a.drop (i + 1)) (b.drop k) := by
  rw [List.drop_eq_getElem_cons hi, List.drop_of_length_le hk]
  rfl
theorem mk_right {α : Type} (key : α → Int) (f : Nat) (a b : List α) (i k : Nat) (hi : a.length ≤ i) (hk : k < b.length) : mergeK key (f + 1) (a.drop i) (b.drop k) = b[k] :: mergeK key f (a.drop i) (b.drop (k + 1)) := by
  rw [List.drop_eq_getElem_cons hk, List.drop_of_length_le hi]
  rfl
theorem mk_both {α : Type} (key : α → Int) (f : Nat) (a b : List α) (i k : Nat) (hi : i < a.length) (hk : k < b.length) : mergeK key (f + 1) (a.drop i) (b.drop k) =
    if key a[i] < key b[k] then a[i] :: mergeK key f (a.drop (i + 1)) (b.drop k) else if key a[i] = key b[k] then mergeK key f (a.drop (i + 1)) (b.drop k) else b[k] :: mergeK key f (a.drop i) (b.drop (k + 1)) := by
  rw [List.drop_eq_getElem_cons hi, List.drop_eq_getElem_cons hk]
  rfl
def mergeR (a b : List Raw) : List Raw := mergeK (·.1) (a.length + b.length) a b
def MgRel (w : World) (a b : List Raw) (u5 u6 u7 : Value) (wr : World) : Prop :=
  ∃ (i k f : Nat) (out : List Raw), u6 = .int .i64 i ∧ u7 = .int .i64 k ∧ i ≤ a.length ∧ k ≤ b.length ∧ f = (a.length - i) + (b.length - k) ∧ Aside0 (out ++ mergeK (·.1) f (a.drop i) (b.drop k) = mergeR a b) ∧ out.length ≤ i + k ∧
    Aside0 (Kd.R kRaw 62 wr w.heap.size (fun _ => True) u5 out) ∧ Aside0 (Below w.heap.size w wr)

set_option maxRecDepth 100000 in
set_option maxHeartbeats 4000000 in
theorem merged_raw (A : Option Addr) (c : Nat) (a : List Raw) (A1 : Option Addr) (c1 : Nat) (b : List Raw) (w : World) (ha : Kd.C kRaw w A a.length a) (hc : a.length ≤ c) (hb : Kd.C kRaw w A1 b.length b) (hc1 : b.length ≤ c1) (hl : a.length + b.length ≤ 1000000000) :
    Calls Try.prog 38 #[.slice A a.length c, .slice A1 b.length c1] w fun e w' => ∃ v, e = .returned v ∧ Kd.R kRaw 62 w' w.heap.size (fun _ => True) v (mergeR a b) ∧ Below w.heap.size w w' := by
  have HA := Aside0.mk ha
  have HB := Aside0.mk hb
  clear ha hb
  go_enter Try.func38, Try.ntmps38
  go_wp2_with fail
  go_loopw [5, 6, 7] (fun u5 u6 u7 wr => MgRel w a b u5 u6 u7 wr) (fun _ u6 u7 _ => (a.length - (intOf u6).toNat) + (b.length - (intOf u7).toNat))
  case atStart => exact ⟨0, 0, _, [], rfl, rfl, by omega, by omega, rfl, ⟨rfl⟩, by simp, ⟨Kd.R_nil _ _ _ _ _⟩, ⟨Below.refl _ _⟩⟩
  case round =>
    obtain ⟨i, k, f, out, rfl, rfl, hi, hk, hf, HE, hol, HR, HBW⟩ := hrel
    have HAr : Aside0 (Kd.C kRaw wr A a.length a) := ⟨Kd.C_below HA.out HBW.out⟩
    have HBr : Aside0 (Kd.C kRaw wr A1 b.length b) := ⟨Kd.C_below HB.out HBW.out⟩
    have hi9 : i ≤ 1000000000 := by omega
    have hk9 : k ≤ 1000000000 := by omega
    have HF := Aside0.mk hf
    clear hf
    by_cases hlt : i < a.length
    · have hd : decide (i < a.length) = true := decide_eq_true hlt
      obtain ⟨ad, rfl, p0, p1⟩ := raw_at HAr.out i hlt
      obtain ⟨r, hr⟩ : ∃ r, r = a[i] := ⟨_, rfl⟩
      rw [← hr] at p0 p1
      have HRR := Aside0.mk hr
      clear hr
      obtain ⟨num, A', n', c'⟩ := r
      simp only [sliceV] at p0 p1
      by_cases hkt : k < b.length
      · have hd2 : decide (k < b.length) = true := decide_eq_true hkt
        have he2 : ((k : Int) == (b.length : Int)) = false := by rw [beq_eq_false_iff_ne]; omega
        obtain ⟨ad1, rfl, q0, q1⟩ := raw_at HBr.out k hkt
        obtain ⟨s, hs⟩ : ∃ s, s = b[k] := ⟨_, rfl⟩
        rw [← hs] at q0 q1
        have HSS := Aside0.mk hs
        clear hs
        obtain ⟨num1, A1', n1', c1'⟩ := s
        simp only [sliceV] at q0 q1
        rcases Int.lt_trichotomy num num1 with h | h | h
        · have hd3 : decide (num < num1) = true := decide_eq_true h
          go_wp2_with fail
          go_quiet (fail)
          obtain ⟨wd, hwd⟩ : ∃ wd, wd = wr.drewN nq := ⟨_, rfl⟩
          rw [← hwd]
          have HRd : Aside0 (Kd.R kRaw 62 wd w.heap.size (fun _ => True) u5 out) := ⟨by rw [hwd]; exact Kd.R_drewN HR.out _⟩
          have HBd : Aside0 (Below w.heap.size w wd) := ⟨by rw [hwd]; exact pw_below_drewN HBW.out _⟩
          have p0d : wd.cell? (ad.add (i * 2)) = some (Value.int IntKind.i64 num) := by rw [hwd]; exact p0
          have p1d : wd.cell? ⟨(ad.add (i * 2)).block, (ad.add (i * 2)).off + 1, none⟩ = some (Value.slice A' n' c') := by rw [hwd]; exact p1
          have q0d : wd.cell? (ad1.add (k * 2)) = some (Value.int IntKind.i64 num1) := by rw [hwd]; exact q0
          have q1d : wd.cell? ⟨(ad1.add (k * 2)).block, (ad1.add (k * 2)).off + 1, none⟩ = some (Value.slice A1' n1' c1') := by rw [hwd]; exact q1
          clear hwd p0 p1 q0 q1
          go_wp2_with (at_builtin; refine Kd.R_append kRaw (w0 := w) w.heap.size rfl (.tmp 51) (.tmp 56) 23 62 (.agg #[.int .i64 0, .slice none 0 0]) 32 rfl Try.underlying23 info62 rfl (by decide) (by decide) u5 out (num, A', n', c') [.int .i64 num, .slice A' n' c'] (fun _ => True) (fun _ => False) rfl rfl ?aP (fun _ hk => hk.elim) (fun _ _ => trivial) HRd.out HBd.out HBd.out.size ?aL ?_)
          case aP => exact kRaw_mkM _ _ _ _
          case aL => omega
          intro v6 w6 hO6 hB6 _ _
          have HO6 := Aside0.mk hO6
          have HB6 := Aside0.mk hB6
          clear hO6 hB6
          go_wp2_with fail
          go_roundw
          case measure => simp [intOf]; omega
          case rel =>
            obtain ⟨f', rfl⟩ : ∃ f', f = f' + 1 := ⟨f - 1, by have := HF.out; omega⟩
            refine ⟨i + 1, k, f', out ++ [(num, A', n', c')], by go_num, rfl, by omega, by omega, by have := HF.out; omega, ⟨?_⟩, by simp; omega, HO6, HB6⟩
            have h9 := HE.out
            rw [mk_both _ _ _ _ _ _ hlt hkt, ← HRR.out, ← HSS.out] at h9
            dsimp only at h9
            rw [if_pos h] at h9
            rw [← h9]
            simp
        · have hd3 : decide (num < num1) = false := decide_eq_false (by omega)
          have he3 : (num == num1) = true := by rw [beq_iff_eq]; exact h
          have HQ := Aside0.mk h
          clear h
          go_wp2_with fail
          go_quiet (fail)
          obtain ⟨wd, hwd⟩ : ∃ wd, wd = wr.drewN nq := ⟨_, rfl⟩
          rw [← hwd]
          have HRd0 : Aside0 (Kd.R kRaw 62 wd w.heap.size (fun _ => True) u5 out) := ⟨by rw [hwd]; exact Kd.R_drewN HR.out _⟩
          have HBd0 : Aside0 (Below w.heap.size w wd) := ⟨by rw [hwd]; exact pw_below_drewN HBW.out _⟩
          have p0d : wd.cell? (ad.add (i * 2)) = some (Value.int IntKind.i64 num) := by rw [hwd]; exact p0
          have p1d : wd.cell? ⟨(ad.add (i * 2)).block, (ad.add (i * 2)).off + 1, none⟩ = some (Value.slice A' n' c') := by rw [hwd]; exact p1
          have q0d : wd.cell? (ad1.add (k * 2)) = some (Value.int IntKind.i64 num1) := by rw [hwd]; exact q0
          have q1d : wd.cell? ⟨(ad1.add (k * 2)).block, (ad1.add (k * 2)).off + 1, none⟩ = some (Value.slice A1' n1' c1') := by rw [hwd]; exact q1
          clear hwd p0 p1 q0 q1
          go_wp2_with fail
          go_quiet (fail)
          obtain ⟨we, hwe⟩ : ∃ we, we = wd.drewN nq := ⟨_, rfl⟩
          rw [← hwe]
          have HRd : Aside0 (Kd.R kRaw 62 we w.heap.size (fun _ => True) u5 out) := ⟨by rw [hwe]; exact Kd.R_drewN HRd0.out _⟩
          have HBd : Aside0 (Below w.heap.size w we) := ⟨by rw [hwe]; exact pw_below_drewN HBd0.out _⟩
          have p0dd : we.cell? (ad.add (i * 2)) = some (Value.int IntKind.i64 num) := by rw [hwe]; exact p0d
          have q0dd : we.cell? (ad1.add (k * 2)) = some (Value.int IntKind.i64 num1) := by rw [hwe]; exact q0d
          clear hwe p0d q0d
          go_wp2_with fail
          go_roundw
          case measure => simp [intOf]; omega
          case rel =>
            obtain ⟨f', rfl⟩ : ∃ f', f = f' + 1 := ⟨f - 1, by have := HF.out; omega⟩
            refine ⟨i + 1, k, f', out, by go_num, rfl, by omega, by omega, by have := HF.out; omega, ⟨?_⟩, by omega, HRd, HBd⟩
            have h9 := HE.out
            rw [mk_both _ _ _ _ _ _ hlt hkt, ← HRR.out, ← HSS.out] at h9
            dsimp only at h9
            rw [if_neg (by have := HQ.out; omega), if_pos HQ.out] at h9
            rw [← h9]
        · have hd3 : decide (num < num1) = false := decide_eq_false (by omega)
          have he3 : (num == num1) = false := by rw [beq_eq_false_iff_ne]; omega
          have HQ := Aside0.mk h
          clear h
          go_wp2_with fail
          go_quiet (fail)
          obtain ⟨wd, hwd⟩ : ∃ wd, wd = wr.drewN nq := ⟨_, rfl⟩
          rw [← hwd]
          have HRd0 : Aside0 (Kd.R kRaw 62 wd w.heap.size (fun _ => True) u5 out) := ⟨by rw [hwd]; exact Kd.R_drewN HR.out _⟩
          have HBd0 : Aside0 (Below w.heap.size w wd) := ⟨by rw [hwd]; exact pw_below_drewN HBW.out _⟩
          have p0d : wd.cell? (ad.add (i * 2)) = some (Value.int IntKind.i64 num) := by rw [hwd]; exact p0
          have p1d : wd.cell? ⟨(ad.add (i * 2)).block, (ad.add (i * 2)).off + 1, none⟩ = some (Value.slice A' n' c') := by rw [hwd]; exact p1
          have q0d : wd.cell? (ad1.add (k * 2)) = some (Value.int IntKind.i64 num1) := by rw [hwd]; exact q0
          have q1d : wd.cell? ⟨(ad1.add (k * 2)).block, (ad1.add (k * 2)).off + 1, none⟩ = some (Value.slice A1' n1' c1') := by rw [hwd]; exact q1
          clear hwd p0 p1 q0 q1
          go_wp2_with fail
          go_quiet (fail)
          obtain ⟨we, hwe⟩ : ∃ we, we = wd.drewN nq := ⟨_, rfl⟩
          rw [← hwe]
          have HRd : Aside0 (Kd.R kRaw 62 we w.heap.size (fun _ => True) u5 out) := ⟨by rw [hwe]; exact Kd.R_drewN HRd0.out _⟩
          have HBd : Aside0 (Below w.heap.size w we) := ⟨by rw [hwe]; exact pw_below_drewN HBd0.out _⟩
          have p0dd : we.cell? (ad.add (i * 2)) = some (Value.int IntKind.i64 num) := by rw [hwe]; exact p0d
          have q0dd : we.cell? (ad1.add (k * 2)) = some (Value.int IntKind.i64 num1) := by rw [hwe]; exact q0d
          have q1dd : we.cell? ⟨(ad1.add (k * 2)).block, (ad1.add (k * 2)).off + 1, none⟩ = some (Value.slice A1' n1' c1') := by rw [hwe]; exact q1d
          clear hwe p0d q0d q1d
          go_wp2_with (at_builtin; refine Kd.R_append kRaw (w0 := w) w.heap.size rfl (.tmp 18) (.tmp 23) 23 62 (.agg #[.int .i64 0, .slice none 0 0]) 32 rfl Try.underlying23 info62 rfl (by decide) (by decide) u5 out (num1, A1', n1', c1') [.int .i64 num1, .slice A1' n1' c1'] (fun _ => True) (fun _ => False) rfl rfl ?aP (fun _ hk => hk.elim) (fun _ _ => trivial) HRd.out HBd.out HBd.out.size ?aL ?_)
          case aP => exact kRaw_mkM _ _ _ _
          case aL => omega
          intro v6 w6 hO6 hB6 _ _
          have HO6 := Aside0.mk hO6
          have HB6 := Aside0.mk hB6
          clear hO6 hB6
          go_wp2_with fail
          go_roundw
          case measure => simp [intOf]; omega
          case rel =>
            obtain ⟨f', rfl⟩ : ∃ f', f = f' + 1 := ⟨f - 1, by have := HF.out; omega⟩
            refine ⟨i, k + 1, f', out ++ [(num1, A1', n1', c1')], rfl, by go_num, by omega, by omega, by have := HF.out; omega, ⟨?_⟩, by simp; omega, HO6, HB6⟩
            have h9 := HE.out
            rw [mk_both _ _ _ _ _ _ hlt hkt, ← HRR.out, ← HSS.out] at h9
            dsimp only at h9
            rw [if_neg (by have := HQ.out; omega), if_neg (by have := HQ.out; omega)] at h9
            rw [← h9]
            simp
      · have hd2 : decide (k < b.length) = false := decide_eq_false hkt
        have he2 : ((k : Int) == (b.length : Int)) = true := by rw [beq_iff_eq]; omega
        go_wp2_with fail
        go_quiet (fail)
        obtain ⟨wd, hwd⟩ : ∃ wd, wd = wr.drewN nq := ⟨_, rfl⟩
        rw [← hwd]
        have HRd : Aside0 (Kd.R kRaw 62 wd w.heap.size (fun _ => True) u5 out) := ⟨by rw [hwd]; exact Kd.R_drewN HR.out _⟩
        have HBd : Aside0 (Below w.heap.size w wd) := ⟨by rw [hwd]; exact pw_below_drewN HBW.out _⟩
        have p0d : wd.cell? (ad.add (i * 2)) = some (Value.int IntKind.i64 num) := by rw [hwd]; exact p0
        have p1d : wd.cell? ⟨(ad.add (i * 2)).block, (ad.add (i * 2)).off + 1, none⟩ = some (Value.slice A' n' c') := by rw [hwd]; exact p1
        clear hwd p0 p1
        go_wp2_with (at_builtin; refine Kd.R_append kRaw (w0 := w) w.heap.size rfl (.tmp 51) (.tmp 56) 23 62 (.agg #[.int .i64 0, .slice none 0 0]) 32 rfl Try.underlying23 info62 rfl (by decide) (by decide) u5 out (num, A', n', c') [.int .i64 num, .slice A' n' c'] (fun _ => True) (fun _ => False) rfl rfl ?aP (fun _ hk => hk.elim) (fun _ _ => trivial) HRd.out HBd.out HBd.out.size ?aL ?_)
        case aP => exact kRaw_mkM _ _ _ _
        case aL => omega
        intro v6 w6 hO6 hB6 _ _
        have HO6 := Aside0.mk hO6
        have HB6 := Aside0.mk hB6
        clear hO6 hB6
        go_wp2_with fail
        go_roundw
        case measure => simp [intOf]; omega
        case rel =>
          obtain ⟨f', rfl⟩ : ∃ f', f = f' + 1 := ⟨f - 1, by have := HF.out; omega⟩
          refine ⟨i + 1, k, f', out ++ [(num, A', n', c')], by go_num, rfl, by omega, by omega, by have := HF.out; omega, ⟨?_⟩, by simp; omega, HO6, HB6⟩
          have h9 := HE.out
          rw [mk_left _ _ _ _ _ _ hlt (by omega), ← HRR.out] at h9
          skip
          rw [← h9]
          simp
    · have hd : decide (i < a.length) = false := decide_eq_false hlt
      by_cases hkt : k < b.length
      · have hd2 : decide (k < b.length) = true := decide_eq_true hkt
        have he2 : ((k : Int) == (b.length : Int)) = false := by rw [beq_eq_false_iff_ne]; omega
        obtain ⟨ad1, rfl, q0, q1⟩ := raw_at HBr.out k hkt
        obtain ⟨s, hs⟩ : ∃ s, s = b[k] := ⟨_, rfl⟩
        rw [← hs] at q0 q1
        have HSS := Aside0.mk hs
        clear hs
        obtain ⟨num1, A1', n1', c1'⟩ := s
        simp only [sliceV] at q0 q1
        go_wp2_with fail
        go_quiet (fail)
        obtain ⟨wd, hwd⟩ : ∃ wd, wd = wr.drewN nq := ⟨_, rfl⟩
        rw [← hwd]
        have HRd0 : Aside0 (Kd.R kRaw 62 wd w.heap.size (fun _ => True) u5 out) := ⟨by rw [hwd]; exact Kd.R_drewN HR.out _⟩
        have HBd0 : Aside0 (Below w.heap.size w wd) := ⟨by rw [hwd]; exact pw_below_drewN HBW.out _⟩
        have q0d : wd.cell? (ad1.add (k * 2)) = some (Value.int IntKind.i64 num1) := by rw [hwd]; exact q0
        have q1d : wd.cell? ⟨(ad1.add (k * 2)).block, (ad1.add (k * 2)).off + 1, none⟩ = some (Value.slice A1' n1' c1') := by rw [hwd]; exact q1
        clear hwd q0 q1
        go_wp2_with fail
        go_quiet (fail)
        obtain ⟨we, hwe⟩ : ∃ we, we = wd.drewN nq := ⟨_, rfl⟩
        rw [← hwe]
        have HRd : Aside0 (Kd.R kRaw 62 we w.heap.size (fun _ => True) u5 out) := ⟨by rw [hwe]; exact Kd.R_drewN HRd0.out _⟩
        have HBd : Aside0 (Below w.heap.size w we) := ⟨by rw [hwe]; exact pw_below_drewN HBd0.out _⟩
        have q0dd : we.cell? (ad1.add (k * 2)) = some (Value.int IntKind.i64 num1) := by rw [hwe]; exact q0d
        have q1dd : we.cell? ⟨(ad1.add (k * 2)).block, (ad1.add (k * 2)).off + 1, none⟩ = some (Value.slice A1' n1' c1') := by rw [hwe]; exact q1d
        clear hwe q0d q1d
        go_wp2_with (at_builtin; refine Kd.R_append kRaw (w0 := w) w.heap.size rfl (.tmp 18) (.tmp 23) 23 62 (.agg #[.int .i64 0, .slice none 0 0]) 32 rfl Try.underlying23 info62 rfl (by decide) (by decide) u5 out (num1, A1', n1', c1') [.int .i64 num1, .slice A1' n1' c1'] (fun _ => True) (fun _ => False) rfl rfl ?aP (fun _ hk => hk.elim) (fun _ _ => trivial) HRd.out HBd.out HBd.out.size ?aL ?_)
        case aP => exact kRaw_mkM _ _ _ _
        case aL => omega
        intro v6 w6 hO6 hB6 _ _
        have HO6 := Aside0.mk hO6
        have HB6 := Aside0.mk hB6
        clear hO6 hB6
        go_wp2_with fail
        go_roundw
        case measure => simp [intOf]; omega
        case rel =>
          obtain ⟨f', rfl⟩ : ∃ f', f = f' + 1 := ⟨f - 1, by have := HF.out; omega⟩
          refine ⟨i, k + 1, f', out ++ [(num1, A1', n1', c1')], rfl, by go_num, by omega, by omega, by have := HF.out; omega, ⟨?_⟩, by simp; omega, HO6, HB6⟩
          have h9 := HE.out
          rw [mk_right _ _ _ _ _ _ (by omega) hkt, ← HSS.out] at h9
          skip
          rw [← h9]
          simp
      · have hd2 : decide (k < b.length) = false := decide_eq_false hkt
        go_wp2_with fail
        go_returns
        refine ⟨_, rfl, ?_, HBW.out⟩
        have h9 := HE.out
        have hf0 : f = 0 := by have := HF.out; omega
        rw [hf0] at h9
        have h9 : out ++ [] = mergeR a b := h9
        rw [List.append_nil] at h9
        rw [← h9]
        exact HR.out
end Go.Proofs.Ytcdpkdehogcjnaa.Print

/-! What was written is read again, in plain Lean. -/
namespace Go.Proofs.Ytcdpkdehogcjnaa.Print
open Go Go.RowKit Go.Proofs.YtcdpkdehogcjnaaW.PrintWords Go.Proofs.YtcdpkdehogcjnaaW.PrintLast Go.Proofs.YtcdpkdehogcjnaaW.PrintMore

theorem putF_self {xs : List Int} {p : S34} (h : PutOk xs.length p) (h64 : p.f1.length = 64) : blkL (putF xs p) p.f0.toNat = p.f1 := by
  obtain ⟨_, h1, _⟩ := h
  unfold blkL putF
  rw [List.drop_left' (by rw [List.length_take]; omega), List.take_left' h64]
theorem doneF_snoc (xs : List Int) (ps : List S34) (p : S34) : doneF xs (ps ++ [p]) = putF (doneF xs ps) p := by simp [doneF, List.foldl_append]
theorem chain_ge (d : List Int) (nb : Nat) : ∀ (m a : Nat) (used : List Nat) (all : List Int) (u : List Nat) (al : List Int), chainF d nb m a used all = some (u, al) → (∀ x ∈ used, 2 ≤ x) → ∀ x ∈ u, 2 ≤ x
  | 0, a, used, all, u, al, h, hu, x, hx => by
    unfold chainF at h
    split at h
    · cases h; exact hu x hx
    · cases h
  | m + 1, a, used, all, u, al, h, hu, x, hx => by
    unfold chainF at h
    split at h
    · rename_i hc
      refine chain_ge d nb m _ _ _ _ _ h (fun y hy => ?_) x hx
      rcases List.mem_append.1 hy with hy | hy
      · exact hu y hy
      · rw [List.mem_singleton.1 hy]; exact hc.1
    · cases h
theorem head_used {xs : List Int} {nb i : Nat} {st : HSt} (h : headF xs nb i = some st) : ∀ x ∈ st.used, 2 ≤ x := by
  unfold headF at h
  simp only at h
  split at h
  · unfold headG at h
    split at h
    · cases h
    · rename_i used all hc
      split at h
      · rw [Option.map_eq_some_iff] at h
        obtain ⟨rs, hr, rfl⟩ := h
        exact chain_ge _ _ _ _ _ _ _ _ hc (fun x hx => by cases hx)
      · cases h
  · cases h
theorem best_two {ys : List Int} {nb j : Nat} {s t : HSt} (hj : j ≤ 1) (h : headF ys nb j = some s) (h' : headF ys nb (1 - j) = some t) (hlt : s.ver < t.ver) : bestK ys nb 2 = some (1 - j, t) := by
  have hj' : j = 0 ∨ j = 1 := by omega
  rcases hj' with rfl | rfl
  · have h' : headF ys nb 1 = some t := h'
    unfold bestK bestK bestK
    rw [h, h']
    simp only
    rw [if_pos hlt]
  · have h' : headF ys nb 0 = some t := h'
    unfold bestK bestK bestK
    rw [h, h']
    simp only
    rw [if_neg (by omega)]

/-- the writes of pieces, one after the other -/
structure Pieces (xs bs : List Int) (nb m : Nat) (F : Nat → Nat) (f : List Int) : Prop where
  len : xs.length = nb * 64
  ge : ∀ k, k < m → 2 ≤ F k ∧ F k < nb
  inj : ∀ i k, i < k → k < m → F i ≠ F k
  at_ : ∀ k, k ≤ m → f.getD k 0 = (nextOf F m k : Nat)
theorem Pieces.put {xs bs : List Int} {nb m : Nat} {F : Nat → Nat} {f : List Int} (P : Pieces xs bs nb m F f) (k : Nat) (hk : k < m) : (putAt f bs k).f0 = (F k : Nat) ∧ PutOk xs.length (putAt f bs k) := by
  have h1 := P.at_ k (by omega)
  have e : nextOf F m k = F k := if_pos hk
  rw [e] at h1
  have h2 : (putAt f bs k).f0 = (F k : Nat) := h1
  refine ⟨h2, ?_, ?_, ?_⟩
  · rw [h2]; omega
  · rw [h2, P.len, Int.toNat_natCast]
    have := (P.ge k hk).2
    omega
  · rw [putAt_len]; omega
theorem Pieces.done {xs bs : List Int} {nb m : Nat} {F : Nat → Nat} {f : List Int} (P : Pieces xs bs nb m F f) : ∀ m', m' ≤ m → (doneF xs (writesL f bs m')).length = xs.length ∧ (∀ k, k < m' → blkL (doneF xs (writesL f bs m')) (F k) = (putAt f bs k).f1) ∧
    ∀ i, (∀ k, k < m' → i ≠ F k) → blkL (doneF xs (writesL f bs m')) i = blkL xs i
  | 0, _ => ⟨rfl, fun k hk => absurd hk (by omega), fun _ _ => rfl⟩
  | m' + 1, h => by
    obtain ⟨h1, h2, h3⟩ := P.done m' (by omega)
    obtain ⟨p0, p1⟩ := P.put m' (by omega)
    rw [writesL_succ, doneF_snoc]
    have p1' : PutOk (doneF xs (writesL f bs m')).length (putAt f bs m') := by rw [h1]; exact p1
    have e : (putAt f bs m').f0.toNat = F m' := by rw [p0, Int.toNat_natCast]
    refine ⟨by rw [putF_len p1', h1], fun k hk => ?_, fun i hi => ?_⟩
    · by_cases hkm : k = m'
      · subst hkm
        rw [← e]
        exact putF_self p1' (putAt_len _ _ _)
      · rw [putF_blk p1' (F k) (by rw [e]; exact P.inj k m' (by omega) (by omega))]
        exact h2 k (by omega)
    · rw [putF_blk p1' i (by rw [e]; exact hi m' (by omega))]
      exact h3 i (fun k hk => hi k (by omega))
/-- the head of what was written -/
theorem head_written {ys bs : List Int} {nb j m : Nat} {F : Nat → Nat} {v : Nat} {l : List S62} (hn : nb ≤ 256) (hbs : bs = recsB l) (ha : askedF l = 0) (hm : m = (bs.length + 61) / 62) (hsz : bs.length ≤ 62 * ((nb - 2) / 2)) (hv : 1 ≤ v ∧ v ≤ 1099511627776)
    (hH : blkL ys j = headB (m : Nat) bs.length (nextOf F m 0 : Nat) v ++ headB (m : Nat) bs.length (nextOf F m 0 : Nat) v)
    (hblk : ∀ k, k < m → blkL ys (F k) = wordL (nextOf F m (k + 1)) ++ ((bs ++ List.replicate (62 * m - bs.length) (0 : Int)).drop (62 * k)).take 62)
    (h2 : ∀ k, k < m → 2 ≤ F k ∧ F k < nb) (hinj : ∀ i k, i < k → k < m → F i ≠ F k) : headF ys nb j = some ⟨v, (List.range m).map F, l⟩ := by
  have hml : bs.length ≤ 62 * m := by omega
  have hn0 : nextOf F m 0 < 65536 := by
    unfold nextOf
    split
    · rename_i h; have := (h2 0 h).2; omega
    · omega
  obtain ⟨H, hHd⟩ : ∃ H, H = headB (m : Nat) bs.length (nextOf F m 0 : Nat) v := ⟨_, rfl⟩
  rw [← hHd] at hH
  have hHl : H.length = 32 := by rw [hHd]; simp [headB, wordL, longL]
  have t2 : (H ++ H).take 2 = wordL m := by rw [hHd]; simp [headB, wordL]
  have t4 : ((H ++ H).drop 2).take 2 = wordL bs.length := by rw [hHd]; simp [headB, wordL]
  have t6 : ((H ++ H).drop 4).take 2 = wordL (nextOf F m 0 : Nat) := by rw [hHd]; simp [headB, wordL]
  have t24 : ((H ++ H).drop 6).take 18 = List.replicate 18 0 := by rw [hHd]; simp [headB, wordL]
  have t32 : ((H ++ H).drop 24).take 8 = longL v := by rw [hHd]; simp [headB, wordL, longL]
  have ok : HeadOk (H ++ H) nb m bs.length v := by
    refine ⟨by rw [List.take_left' hHl, List.drop_left' hHl], ?_, hv.1, hv.2, by omega, by omega, ?_⟩
    · rw [t24]; rfl
    · by_cases h0 : m = 0
      · exact .inl h0
      · right; omega
  rw [headF_eq hH.symm (by rw [t2]; exact numb_word _ (by omega)) (by rw [t4]; exact numb_word _ (by omega)) (by rw [t6]; exact numb_word _ hn0) (by rw [t32]; exact numb_long _ (by omega) (by omega)), if_pos ok]
  have hc := chain_back ys nb m F _ hn hblk h2 hinj m 0 (by omega)
  have hBl : (bs ++ List.replicate (62 * m - bs.length) (0 : Int)).length = 62 * m := by rw [List.length_append, List.length_replicate]; omega
  rw [List.take_of_length_le (Nat.le_of_eq hBl)] at hc
  unfold headG
  have hc : chainF ys nb m (nextOf F m 0) [] [] = some ((List.range m).map F, bs ++ List.replicate (62 * m - bs.length) (0 : Int)) := hc
  rw [hc]
  simp only
  rw [List.drop_left' rfl, List.take_left' rfl, if_pos (by unfold isZ; simp), hbs, asked_back l ha]
  rfl
theorem castL_app (u v : List Nat) : castL (u ++ v) = castL u ++ castL v := by simp [castL]
theorem castL_take (u : List Nat) (m : Nat) : (castL u).take m = castL (u.take m) := by simp [castL, List.map_take]
/-- a state's free blocks are right for pieces -/
theorem pieces_of {xs : List Int} {j : Nat} {st : HSt} (h : diskF xs = some (j, st)) (bs : List Int) (hm : (bs.length + 61) / 62 ≤ (freeL st.used 2 (xs.length / 64 - 2)).length) :
    Pieces xs bs (xs.length / 64) ((bs.length + 61) / 62) (fun k => (freeN st.used 2 (xs.length / 64 - 2)).getD k 0) ((freeL st.used 2 (xs.length / 64 - 2)).take ((bs.length + 61) / 62) ++ [0]) ∧
      ∀ k, k < (bs.length + 61) / 62 → st.used.contains ((freeN st.used 2 (xs.length / 64 - 2)).getD k 0) = false := by
  obtain ⟨e64, h8, h256, hj1, hh, hv1, hv2, hu⟩ := disk_facts h
  obtain ⟨m, hme⟩ : ∃ m, m = (bs.length + 61) / 62 := ⟨_, rfl⟩
  obtain ⟨fn, hfn⟩ : ∃ fn, fn = freeN st.used 2 (xs.length / 64 - 2) := ⟨_, rfl⟩
  have hfl : freeL st.used 2 (xs.length / 64 - 2) = castL fn := by rw [hfn]; exact freeL_N _ _ _
  rw [hfl] at hm ⊢
  rw [← hme] at hm ⊢
  rw [← hfn]
  have hml : m ≤ fn.length := by simpa [castL] using hm
  have get : ∀ k, k < m → fn.getD k 0 ∈ fn := fun k hk => by
    rw [List.getD_eq_getElem?_getD, List.getElem?_eq_getElem (by omega)]
    exact List.getElem_mem _
  have mem : ∀ x, x ∈ fn → 2 ≤ x ∧ x < xs.length / 64 ∧ st.used.contains x = false := fun x hx => by
    rw [hfn] at hx
    obtain ⟨h1, h2, h3⟩ := freeN_mem _ _ _ _ hx
    exact ⟨h1, by omega, h3⟩
  refine ⟨⟨e64, fun k hk => ⟨(mem _ (get k hk)).1, (mem _ (get k hk)).2.1⟩, fun i k hik hk he => ?_, fun k hk => ?_⟩, fun k hk => (mem _ (get k hk)).2.2⟩
  · have hnd : fn.Nodup := by rw [hfn]; exact freeN_nodup _ _ _
    rw [List.getD_eq_getElem?_getD, List.getD_eq_getElem?_getD, List.getElem?_eq_getElem (show i < fn.length by omega), List.getElem?_eq_getElem (show k < fn.length by omega)] at he
    have := (List.getElem_inj hnd).1 he
    omega
  · rw [castL_take, List.getD_eq_getElem?_getD, List.getElem?_append]
    have hl : (castL (fn.take m)).length = m := by simp [castL]; omega
    unfold nextOf
    by_cases hkm : k < m
    · rw [if_pos (by rw [hl]; exact hkm), if_pos hkm, castL, List.getElem?_map, List.getElem?_take, if_pos hkm]
      show _ = ((fn.getD k 0 : Nat) : Int)
      rw [List.getD_eq_getElem?_getD, List.getElem?_eq_getElem (show k < fn.length by omega)]
      rfl
    · obtain rfl : k = m := by omega
      rw [if_neg (by rw [hl]; omega), if_neg hkm, hl, Nat.sub_self]
      rfl

/-- THERE AND BACK: what a change writes, and what is read behind it -/
structure Back (xs : List Int) (j : Nat) (st : HSt) (l : List S62) (ws : List S34) : Prop where
  puts : putsF xs ws = 0
  bytes : IsBytes (doneF xs ws)
  len : (doneF xs ws).length = xs.length
  disk : ∃ u, diskF (doneF xs ws) = some (1 - j, ⟨st.ver + 1, u, l⟩)
  many : ws.length ≤ 128
theorem putsR_ok {n : Nat} : ∀ {l : List S34}, (∀ p ∈ l, PutOk n p ∧ 1 ≤ p.f1.length) → putsR n l = 0
  | [], _ => rfl
  | p :: l, h => by
    obtain ⟨⟨h0, h1, h2⟩, h3⟩ := h p (by simp)
    unfold putsR
    rw [if_neg (by omega), if_neg (by omega), if_neg (by omega), if_neg (by omega)]
    exact putsR_ok (fun q hq => h q (by simp [hq]))
theorem bytes_app {xs ys : List Int} (h : IsBytes xs) (h' : IsBytes ys) : IsBytes (xs ++ ys) := fun x hx => by
  rcases List.mem_append.1 hx with hx | hx
  · exact h x hx
  · exact h' x hx
theorem bytes_zeros (n : Nat) : IsBytes (List.replicate n 0) := fun x hx => by rw [List.eq_of_mem_replicate hx]; omega
theorem bytes_headB (a b c d : Int) : IsBytes (headB a b c d) := bytes_app (bytes_app (bytes_app (bytes_app (bytes_word _) (bytes_word _)) (bytes_word _)) (bytes_zeros _)) (bytes_long _)
theorem bytes_recs {l : List S62} (h : ∀ x ∈ l, IsBytes x.f1) : IsBytes (recsB l) := fun x hx => by
  unfold recsB at hx
  obtain ⟨r, hr, hx⟩ := List.mem_flatMap.1 hx
  exact bytes_app (bytes_long _) (bytes_app (bytes_word _) (h r hr)) x hx
theorem bytes_chunk {bs : List Int} (h : IsBytes bs) (k : Nat) : IsBytes (chunk bs k) := bytes_take (bytes_drop h _) _
theorem bytes_put (f : List Int) {bs : List Int} (h : IsBytes bs) (k : Nat) : IsBytes (putAt f bs k).f1 := bytes_app (bytes_word _) (bytes_app (bytes_chunk h k) (bytes_zeros _))
theorem bytes_done : ∀ {ps : List S34} {xs : List Int}, IsBytes xs → (∀ p ∈ ps, IsBytes p.f1) → IsBytes (doneF xs ps)
  | [], _, h, _ => h
  | p :: ps, xs, h, hp => bytes_done (ps := ps) (putF_bytes h (hp p (by simp))) (fun q hq => hp q (by simp [hq]))
theorem size_of {xs : List Int} {q : Nat × HSt} (h : diskF xs = some q) : sizeOk xs.length = true ∧ bestK xs (xs.length / 64) 2 = some q := by
  unfold diskF at h
  split at h
  · rename_i hs; exact ⟨hs, h⟩
  · cases h
theorem change_back {xs : List Int} (hb : IsBytes xs) {j : Nat} {st : HSt} (h : diskF xs = some (j, st)) {l : List S62} (ha : askedF l = 0) (hlb : ∀ x ∈ l, IsBytes x.f1) (hok : writesOk (xs.length / 64) st.ver (recsB l) = true) :
    Back xs j st l (writesF j st.ver (freeL st.used 2 (xs.length / 64 - 2)) (recsB l)) := by
  obtain ⟨e64, h8, h256, hj1, hh, hv1, hv2, hu⟩ := disk_facts h
  obtain ⟨hs, hbest⟩ := size_of h
  have hw : (recsB l).length ≤ 62 * ((xs.length / 64 - 2) / 2) ∧ st.ver < 1099511627776 := by
    unfold writesOk roomN at hok
    simpa using hok
  have hm := free_room (b := (recsB l).length) h8 hu hw.1
  obtain ⟨P, hfree⟩ := pieces_of h (recsB l) hm
  obtain ⟨fr, hfr⟩ : ∃ fr, fr = freeL st.used 2 (xs.length / 64 - 2) := ⟨_, rfl⟩
  obtain ⟨F, hF⟩ : ∃ F : Nat → Nat, F = fun k => (freeN st.used 2 (xs.length / 64 - 2)).getD k 0 := ⟨_, rfl⟩
  have hfree : ∀ k, k < ((recsB l).length + 61) / 62 → st.used.contains (F k) = false := by rw [hF]; exact hfree
  rw [← hfr, ← hF] at P
  rw [← hfr]
  clear hF hm
  obtain ⟨nb, hnb⟩ : ∃ nb, nb = xs.length / 64 := ⟨_, rfl⟩
  rw [← hnb] at h8 h256 hh hu hok hw P hbest e64
  obtain ⟨bs, hbs⟩ : ∃ bs, bs = recsB l := ⟨_, rfl⟩
  have hbb : IsBytes bs := by rw [hbs]; exact bytes_recs hlb
  rw [← hbs] at hok hw P hfree ⊢
  obtain ⟨m, hme⟩ : ∃ m, m = (bs.length + 61) / 62 := ⟨_, rfl⟩
  unfold writesF
  rw [← hme] at P hfree ⊢
  obtain ⟨f, hf⟩ : ∃ f, f = fr.take m ++ [0] := ⟨_, rfl⟩
  rw [← hf] at P ⊢
  obtain ⟨d1, d2, d3⟩ := P.done m (Nat.le_refl _)
  obtain ⟨v, hv⟩ : ∃ v : Nat, st.ver + 1 = (v : Int) := ⟨(st.ver + 1).toNat, by omega⟩
  obtain ⟨ph, hph⟩ : ∃ ph : S34, ph = ⟨1 - (j : Int), headB (m : Nat) bs.length (f.getD 0 0) (st.ver + 1) ++ headB (m : Nat) bs.length (f.getD 0 0) (st.ver + 1)⟩ := ⟨_, rfl⟩
  rw [← hph]
  have hf0 := P.at_ 0 (Nat.zero_le _)
  rw [hf0, hv] at hph
  have hp64 : ph.f1.length = 64 := by rw [hph]; simp [headB, wordL, longL]
  have hp0 : ph.f0.toNat = 1 - j := by rw [hph]; show (1 - (j : Int)).toNat = _; omega
  have hpok : PutOk xs.length ph := ⟨by rw [hph]; show (0 : Int) ≤ 1 - (j : Int); omega, by rw [hp0]; omega, by omega⟩
  have hpok' : PutOk (doneF xs (writesL f bs m)).length ph := by rw [d1]; exact hpok
  have hpb : IsBytes ph.f1 := by rw [hph]; exact bytes_app (bytes_headB _ _ _ _) (bytes_headB _ _ _ _)
  obtain ⟨ys, hys⟩ : ∃ ys, ys = doneF xs (writesL f bs m ++ [ph]) := ⟨_, rfl⟩
  have hys2 : ys = putF (doneF xs (writesL f bs m)) ph := by rw [hys, doneF_snoc]
  have hyl : ys.length = xs.length := by rw [hys2, putF_len hpok', d1]
  have hyH : blkL ys (1 - j) = ph.f1 := by rw [hys2, ← hp0]; exact putF_self hpok' hp64
  have hyF : ∀ k, k < m → blkL ys (F k) = (putAt f bs k).f1 := fun k hk => by
    rw [hys2, putF_blk hpok' (F k) (by rw [hp0]; have := (P.ge k hk).1; omega)]
    exact d2 k hk
  have hyO : ∀ i, i ≠ 1 - j → (∀ k, k < m → i ≠ F k) → blkL ys i = blkL xs i := fun i h1 h2 => by
    rw [hys2, putF_blk hpok' i (by rw [hp0]; exact h1)]
    exact d3 i h2
  have hmem : ∀ p ∈ writesL f bs m ++ [ph], (PutOk xs.length p ∧ 1 ≤ p.f1.length) ∧ IsBytes p.f1 := fun p hp => by
    rcases List.mem_append.1 hp with hp | hp
    · unfold writesL at hp
      obtain ⟨k, hk, rfl⟩ := List.mem_map.1 hp
      have hk := List.mem_range.1 hk
      exact ⟨⟨(P.put k hk).2, by rw [putAt_len]; omega⟩, bytes_put f hbb k⟩
    · rw [List.mem_singleton.1 hp]
      exact ⟨⟨hpok, by omega⟩, hpb⟩
  refine ⟨?_, bytes_done hb (fun p hp => (hmem p hp).2), by rw [← hys]; exact hyl, ?_, ?_⟩
  · unfold putsF
    rw [if_pos hs]
    exact putsR_ok (fun p hp => (hmem p hp).1)
  · rw [← hys]
    have hnew : headF ys nb (1 - j) = some ⟨v, (List.range m).map F, l⟩ := by
      refine head_written h256 hbs ha hme hw.1 (by omega) (by rw [hyH, hph]) (fun k hk => ?_) P.ge P.inj
      rw [hyF k hk, ← piece_eq bs m k hk (by omega)]
      show wordL (f.getD (k + 1) 0) ++ _ = _
      rw [P.at_ (k + 1) (by omega)]
    have hold : headF ys nb j = some st := by
      refine head_same hh (hyO j (by omega) (fun k hk => by have := (P.ge k hk).1; omega)) (fun x hx => hyO x (by have := head_used hh x hx; omega) (fun k hk e => ?_))
      have h1 := hfree k hk
      rw [← e] at h1
      have h2 : st.used.contains x = true := by simpa using hx
      rw [h2] at h1
      cases h1
    refine ⟨(List.range m).map F, ?_⟩
    unfold diskF
    rw [hyl, if_pos hs, ← hnb, hv]
    exact best_two hj1 hold hnew (by show st.ver < (v : Int); omega)
  · rw [List.length_append, writesL_len]
    simp
    omega
end Go.Proofs.Ytcdpkdehogcjnaa.Print

/-! Merged lists, what is left, what is loaded: plain. -/
namespace Go.Proofs.Ytcdpkdehogcjnaa.Print
open Go Go.RowKit Go.Deep Go.Proofs.YtcdpkdehogcjnaaW.PrintWords Go.Proofs.YtcdpkdehogcjnaaW.PrintLast Go.Proofs.YtcdpkdehogcjnaaW.PrintMore

def keyP (x : S62) : Int := x.f0
def mergeP (a b : List S62) : List S62 := mergeK keyP (a.length + b.length) a b
theorem raws_more {w : World} {r : Raw} {rs : List Raw} {x : S62} {xs : List S62} (h : RawIs w r x) (h2 : RawsAre w rs xs) : RawsAre w (r :: rs) (x :: xs) := by
  refine ⟨by have := h2.1; simpa using this, fun i r' x' hr hx => ?_⟩
  cases i with
  | zero => cases hr; cases hx; exact h
  | succ i => exact h2.2 i r' x' hr hx
theorem raws_nil (w : World) : RawsAre w [] [] := ⟨rfl, fun i r x hr _ => by simp at hr⟩
theorem raws_mergeK {w : World} : ∀ (f : Nat) {a b : List Raw} {xs ys : List S62}, RawsAre w a xs → RawsAre w b ys → RawsAre w (mergeK (·.1) f a b) (mergeK keyP f xs ys)
  | 0, _, _, _, _, _, _ => raws_nil w
  | f + 1, a, b, xs, ys, ha, hb => by
    cases a with
    | nil =>
      obtain rfl : xs = [] := List.eq_nil_of_length_eq_zero ha.1.symm
      cases b with
      | nil =>
        obtain rfl : ys = [] := List.eq_nil_of_length_eq_zero hb.1.symm
        exact raws_nil w
      | cons s b =>
        cases ys with
        | nil => have := hb.1; simp at this
        | cons y ys =>
          obtain ⟨h1, h2⟩ := raws_cons hb
          exact raws_more h1 (raws_mergeK f ha h2)
    | cons r a =>
      cases xs with
      | nil => have := ha.1; simp at this
      | cons x xs =>
        obtain ⟨g1, g2⟩ := raws_cons ha
        cases b with
        | nil =>
          obtain rfl : ys = [] := List.eq_nil_of_length_eq_zero hb.1.symm
          exact raws_more g1 (raws_mergeK f g2 hb)
        | cons s b =>
          cases ys with
          | nil => have := hb.1; simp at this
          | cons y ys =>
            obtain ⟨h1, h2⟩ := raws_cons hb
            unfold mergeK
            have e1 : r.1 = keyP x := g1.1
            have e2 : s.1 = keyP y := h1.1
            simp only [e1, e2]
            split
            · exact raws_more g1 (raws_mergeK f g2 hb)
            · split
              · exact raws_mergeK f g2 hb
              · exact raws_more h1 (raws_mergeK f ha h2)
theorem raws_merge {w : World} {a b : List Raw} {xs ys : List S62} (ha : RawsAre w a xs) (hb : RawsAre w b ys) : RawsAre w (mergeR a b) (mergeP xs ys) := by
  unfold mergeR mergeP
  rw [ha.1, hb.1]
  exact raws_mergeK _ ha hb
theorem mk_mem : ∀ (f : Nat) {a b : List S62}, a.length + b.length ≤ f → Inc a → Inc b → ∀ z, z ∈ mergeK keyP f a b ↔ z ∈ b ∨ (z ∈ a ∧ ∀ y ∈ b, y.f0 ≠ z.f0)
  | 0, a, b, h, _, _, z => by
    obtain rfl : a = [] := List.eq_nil_of_length_eq_zero (by omega)
    obtain rfl : b = [] := List.eq_nil_of_length_eq_zero (by omega)
    simp [mergeK]
  | f + 1, [], [], _, _, _, z => by simp [mergeK]
  | f + 1, [], y :: b, h, ha, hb, z => by
    obtain ⟨q1, q2⟩ := List.pairwise_cons.1 hb
    have ih := mk_mem f (a := []) (b := b) (by simp at h ⊢; omega) ha q2 z
    simp only [mergeK, List.mem_cons, ih]
    simp
  | f + 1, x :: a, [], h, ha, hb, z => by
    obtain ⟨q1, q2⟩ := List.pairwise_cons.1 ha
    have ih := mk_mem f (a := a) (b := []) (by simp at h ⊢; omega) q2 hb z
    simp only [mergeK, List.mem_cons, ih]
    simp
  | f + 1, x :: a, y :: b, h, ha, hb, z => by
    obtain ⟨p1, p2⟩ := List.pairwise_cons.1 ha
    obtain ⟨q1, q2⟩ := List.pairwise_cons.1 hb
    unfold mergeK keyP
    split
    · rename_i hlt
      have ih := mk_mem f (a := a) (b := y :: b) (by simp at h ⊢; omega) p2 hb z
      rw [List.mem_cons, show mergeK (fun x : S62 => x.f0) = mergeK keyP from rfl, ih]
      constructor
      · rintro (rfl | h1 | ⟨h1, h2⟩)
        · refine .inr ⟨by simp, fun w hw => ?_⟩
          rcases List.mem_cons.1 hw with rfl | hw
          · omega
          · have := q1 w hw; omega
        · exact .inl h1
        · exact .inr ⟨by simp [h1], h2⟩
      · rintro (h1 | ⟨h1, h2⟩)
        · exact .inr (.inl h1)
        · rcases List.mem_cons.1 h1 with rfl | h1
          · exact .inl rfl
          · exact .inr (.inr ⟨h1, h2⟩)
    · split
      · rename_i hlt he
        have ih := mk_mem f (a := a) (b := y :: b) (by simp at h ⊢; omega) p2 hb z
        rw [show mergeK (fun x : S62 => x.f0) = mergeK keyP from rfl, ih]
        constructor
        · rintro (h1 | ⟨h1, h2⟩)
          · exact .inl h1
          · exact .inr ⟨by simp [h1], h2⟩
        · rintro (h1 | ⟨h1, h2⟩)
          · exact .inl h1
          · rcases List.mem_cons.1 h1 with rfl | h1
            · exact absurd he.symm (h2 y (by simp))
            · exact .inr ⟨h1, h2⟩
      · rename_i hlt he
        have ih := mk_mem f (a := x :: a) (b := b) (by simp at h ⊢; omega) ha q2 z
        rw [List.mem_cons, show mergeK (fun x : S62 => x.f0) = mergeK keyP from rfl, ih]
        constructor
        · rintro (rfl | h1 | ⟨h1, h2⟩)
          · exact .inl (by simp)
          · exact .inl (by simp [h1])
          · refine .inr ⟨h1, fun w hw => ?_⟩
            rcases List.mem_cons.1 hw with rfl | hw
            · rcases List.mem_cons.1 h1 with rfl | h1
              · omega
              · have := p1 z h1; omega
            · exact h2 w hw
        · rintro (h1 | ⟨h1, h2⟩)
          · rcases List.mem_cons.1 h1 with rfl | h1
            · exact .inl rfl
            · exact .inr (.inl h1)
          · exact .inr (.inr ⟨h1, fun w hw => h2 w (by simp [hw])⟩)
theorem mk_inc : ∀ (f : Nat) {a b : List S62}, a.length + b.length ≤ f → Inc a → Inc b → Inc (mergeK keyP f a b)
  | 0, a, b, h, _, _ => List.Pairwise.nil
  | f + 1, [], [], _, _, _ => List.Pairwise.nil
  | f + 1, [], y :: b, h, ha, hb => by
    obtain ⟨q1, q2⟩ := List.pairwise_cons.1 hb
    have hf : ([] : List S62).length + b.length ≤ f := by simp at h ⊢; omega
    refine List.Pairwise.cons (fun z hz => ?_) (mk_inc f hf ha q2)
    rcases (mk_mem f hf ha q2 z).1 hz with h1 | ⟨h1, _⟩
    · exact q1 z h1
    · cases h1
  | f + 1, x :: a, [], h, ha, hb => by
    obtain ⟨q1, q2⟩ := List.pairwise_cons.1 ha
    have hf : a.length + ([] : List S62).length ≤ f := by simp at h ⊢; omega
    refine List.Pairwise.cons (fun z hz => ?_) (mk_inc f hf q2 hb)
    rcases (mk_mem f hf q2 hb z).1 hz with h1 | ⟨h1, _⟩
    · cases h1
    · exact q1 z h1
  | f + 1, x :: a, y :: b, h, ha, hb => by
    obtain ⟨p1, p2⟩ := List.pairwise_cons.1 ha
    obtain ⟨q1, q2⟩ := List.pairwise_cons.1 hb
    have h1 : a.length + (y :: b).length ≤ f := by simp at h ⊢; omega
    have h2 : (x :: a).length + b.length ≤ f := by simp at h ⊢; omega
    show Inc (if x.f0 < y.f0 then x :: mergeK keyP f a (y :: b) else if x.f0 = y.f0 then mergeK keyP f a (y :: b) else y :: mergeK keyP f (x :: a) b)
    split
    · rename_i hlt
      refine List.Pairwise.cons (fun z hz => ?_) (mk_inc f h1 p2 hb)
      rcases (mk_mem f h1 p2 hb z).1 hz with g | ⟨g, _⟩
      · rcases List.mem_cons.1 g with rfl | g
        · exact hlt
        · have := q1 z g; omega
      · exact p1 z g
    · split
      · exact mk_inc f h1 p2 hb
      · rename_i hlt he
        refine List.Pairwise.cons (fun z hz => ?_) (mk_inc f h2 ha q2)
        rcases (mk_mem f h2 ha q2 z).1 hz with g | ⟨g, _⟩
        · exact q1 z g
        · rcases List.mem_cons.1 g with rfl | g
          · omega
          · have := p1 z g; omega
/-- saving is merging -/
theorem merge_saved {a b : List S62} (ha : Inc a) (hb : Inc b) : mergeP a b = savedL b a := by
  refine inc_same (mk_inc _ (Nat.le_refl _) ha hb) (saveP_inc _) fun z => ?_
  unfold mergeP savedL
  rw [mk_mem _ (Nat.le_refl _) ha hb z, saveP_mem, look_app]
  cases hl : lookP b z.f0 with
  | none =>
    rw [Option.none_or]
    constructor
    · rintro (h | ⟨h, _⟩)
      · rw [look_inc hb h] at hl; cases hl
      · exact look_inc ha h
    · intro h
      refine .inr ⟨look_mem h, fun y hy e => ?_⟩
      have := look_inc hb hy
      rw [e, hl] at this
      cases this
  | some d =>
    rw [Option.some_or]
    constructor
    · rintro (h | ⟨_, h2⟩)
      · rw [← hl]; exact look_inc hb h
      · exact absurd rfl (h2 ⟨z.f0, d⟩ (look_mem hl))
    · intro h
      exact .inl (look_mem (hl.trans h))
theorem saved_asked {a b : List S62} (ha : askedF a = 0) (hb : askedF b = 0) : askedF (savedL b a) = 0 := by
  refine asked_of (fun x hx => ?_) (saveP_inc _)
  rcases List.mem_append.1 (saveP_sub hx) with h | h
  · exact (asked_inc ha).1 x h
  · exact (asked_inc hb).1 x h
theorem left_asked {a : List S62} (ha : askedF a = 0) (ns : List Int) : askedF (leftL ns a) = 0 :=
  asked_of (fun x hx => (asked_inc ha).1 x (List.mem_filter.1 hx).1) ((asked_inc ha).2.filter _)
theorem saved_bytes {a b : List S62} (ha : ∀ x ∈ a, IsBytes x.f1) (hb : ∀ x ∈ b, IsBytes x.f1) : ∀ x ∈ savedL b a, IsBytes x.f1 := fun x hx => by
  rcases List.mem_append.1 (saveP_sub hx) with h | h
  · exact ha x h
  · exact hb x h
theorem left_bytes {a : List S62} (ha : ∀ x ∈ a, IsBytes x.f1) (ns : List Int) : ∀ x ∈ leftL ns a, IsBytes x.f1 := fun x hx => ha x (List.mem_filter.1 hx).1
theorem left_same {a : List S62} {ns : List Int} (h : ∀ x ∈ a, ns.contains x.f0 = false) : leftL ns a = a := by
  unfold leftL
  rw [List.filter_eq_self]
  intro x hx
  rw [h x hx]
  rfl
theorem load_in : ∀ {l : List S62}, Inc l → ∀ x ∈ l, loadF x.f0 l = (x.f1, 0)
  | r :: l, hi, x, hx => by
    obtain ⟨q1, q2⟩ := List.pairwise_cons.1 hi
    unfold loadF
    rcases List.mem_cons.1 hx with rfl | hx
    · rw [if_pos rfl]
    · rw [if_neg (by have := q1 x hx; omega)]
      exact load_in q2 x hx
theorem load_out (n : Int) : ∀ {l : List S62}, (∀ x ∈ l, x.f0 ≠ n) → loadF n l = ([], 3)
  | [], _ => rfl
  | r :: l, h => by
    unfold loadF
    rw [if_neg (h r (by simp))]
    exact load_out n (fun x hx => h x (by simp [hx]))
end Go.Proofs.Ytcdpkdehogcjnaa.Print

/-! Merged in the walk's words; what changes answer, by cases. -/
namespace Go.Proofs.Ytcdpkdehogcjnaa.Print
open Go Go.RowKit Go.Deep Go.Proofs.YtcdpkdehogcjnaaW.PrintWords Go.Proofs.YtcdpkdehogcjnaaW.PrintLast Go.Proofs.YtcdpkdehogcjnaaW.PrintMore

theorem merged_P (A : Option Addr) (c : Nat) (a : List S62) (A1 : Option Addr) (c1 : Nat) (b : List S62) (w : World) (ha : Kd.C k62 w A a.length a) (hc : a.length ≤ c) (hb : Kd.C k62 w A1 b.length b) (hc1 : b.length ≤ c1) (hl : a.length + b.length ≤ 1000000000) :
    Calls Try.prog 38 #[.slice A a.length c, .slice A1 b.length c1] w fun e w' => ∃ A2 c2, e = .returned (.slice A2 (mergeP a b).length c2) ∧ (mergeP a b).length ≤ c2 ∧ Kd.C k62 w' A2 (mergeP a b).length (mergeP a b) ∧ Below w.heap.size w w' := by
  obtain ⟨ra, hra, haa⟩ := raws_of ha
  obtain ⟨rb, hrb, hbb⟩ := raws_of hb
  have e1 := haa.1
  have e2 := hbb.1
  rw [← e1] at hc hra ⊢
  rw [← e2] at hc1 hrb ⊢
  refine (merged_raw A c ra A1 c1 rb w hra hc hrb hc1 (by omega)).mono ?_
  rintro e w' ⟨v, rfl, hR, hB⟩
  obtain ⟨A2, c2, rfl, hc2, hC⟩ := Kd.R_reads hR
  have hA := raws_merge (haa.below hB) (hbb.below hB)
  have hlen := hA.1
  rw [hlen] at hc2 hC ⊢
  exact ⟨A2, c2, rfl, hc2, C_of_raws hC hA, hB⟩

/-- what a change of a right disk answers -/
theorem change_cases {xs : List Int} (hb : IsBytes xs) {j : Nat} {st : HSt} (h : diskF xs = some (j, st)) {l : List S62} (ha : askedF l = 0) (hlb : ∀ x ∈ l, IsBytes x.f1) :
    changeR xs j st l = ([], 2) ∨ ∃ ws ys u, changeR xs j st l = (ws, 0) ∧ disk_Do.f xs ws = some (ys, 0) ∧ IsBytes ys ∧ diskF ys = some (1 - j, ⟨st.ver + 1, u, l⟩) := by
  unfold changeR
  cases hw : writesOk (xs.length / 64) st.ver (recsB l) with
  | false => left; rfl
  | true =>
    right
    have B := change_back hb h ha hlb hw
    obtain ⟨u, hu⟩ := B.disk
    refine ⟨_, _, u, rfl, ?_, B.bytes, hu⟩
    unfold disk_Do.f
    rw [B.puts, if_pos rfl]
theorem write_cases {xs : List Int} (hb : IsBytes xs) (l : List S62) (hlb : ∀ x ∈ l, IsBytes x.f1) :
    (∃ ec, ec ≠ 0 ∧ writeR xs l = ([], ec)) ∨ (askedF l = 0 ∧ ∃ j st ws ys, writeR xs l = (ws, 0) ∧ disk_Do.f xs ws = some (ys, 0) ∧ IsBytes ys ∧ diskF ys = some (j, st) ∧ st.recs = l) := by
  unfold writeR
  cases hd : diskF xs with
  | none => left; exact ⟨200, by omega, rfl⟩
  | some q =>
    obtain ⟨j, st⟩ := q
    simp only
    by_cases ha : askedF l = 0
    · rw [if_pos ha]
      rcases change_cases hb hd ha hlb with h | ⟨ws, ys, u, h1, h2, h3, h4⟩
      · left; exact ⟨2, by omega, h⟩
      · right; exact ⟨ha, 1 - j, _, ws, ys, h1, h2, h3, h4, rfl⟩
    · left
      rw [if_neg ha]
      exact ⟨_, ha, rfl⟩
theorem save_cases {xs : List Int} (hb : IsBytes xs) {j : Nat} {st : HSt} (h : diskF xs = some (j, st)) {old : List S62} (ho : st.recs = old) (hab : askedF old = 0) (hob : ∀ x ∈ old, IsBytes x.f1) (l : List S62) (hlb : ∀ x ∈ l, IsBytes x.f1) :
    (∃ ec, ec ≠ 0 ∧ writeG xs l (savedL l) = ([], ec)) ∨ (askedF l = 0 ∧ ∃ j st ws ys, writeG xs l (savedL l) = (ws, 0) ∧ disk_Do.f xs ws = some (ys, 0) ∧ IsBytes ys ∧ diskF ys = some (j, st) ∧ st.recs = savedL l old) := by
  subst ho
  unfold writeG
  rw [h]
  simp only
  by_cases ha : askedF l = 0
  · rw [if_pos ha]
    rcases change_cases hb h (saved_asked hab ha) (saved_bytes hob hlb) with h | ⟨ws, ys, u, h1, h2, h3, h4⟩
    · left; exact ⟨2, by omega, h⟩
    · right; exact ⟨ha, 1 - j, _, ws, ys, h1, h2, h3, h4, rfl⟩
  · left
    rw [if_neg ha]
    exact ⟨_, ha, rfl⟩
theorem drop_cases {xs : List Int} (hb : IsBytes xs) {j : Nat} {st : HSt} (h : diskF xs = some (j, st)) {old : List S62} (ho : st.recs = old) (hab : askedF old = 0) (hob : ∀ x ∈ old, IsBytes x.f1) (ns : List Int) :
    writeG xs [] (leftL ns) = ([], 2) ∨ ∃ j st ws ys, writeG xs [] (leftL ns) = (ws, 0) ∧ disk_Do.f xs ws = some (ys, 0) ∧ IsBytes ys ∧ diskF ys = some (j, st) ∧ st.recs = leftL ns old := by
  subst ho
  unfold writeG
  rw [h]
  simp only
  rw [if_pos (show askedF [] = 0 from rfl)]
  rcases change_cases hb h (left_asked hab ns) (left_bytes hob ns) with h | ⟨ws, ys, u, h1, h2, h3, h4⟩
  · left; exact h
  · right; exact ⟨1 - j, _, ws, ys, h1, h2, h3, h4, rfl⟩
def foundL (num : Int) (l : List S62) : Bool := l.any fun r => r.f0 == num
theorem found_step (num : Int) (l : List S62) (i : Nat) (h : i < l.length) : foundL num (l.take (i + 1)) = (foundL num (l.take i) || l[i].f0 == num) := by
  unfold foundL
  rw [List.take_succ_eq_append_getElem h, List.any_append]
  simp
theorem found_load (num : Int) {l : List S62} (hi : Inc l) : (foundL num l = true ∧ ∃ b, loadF num l = (b, 0)) ∨ (foundL num l = false ∧ loadF num l = ([], 3) ∧ leftL [num] l = l) := by
  cases hf : foundL num l with
  | true =>
    left
    unfold foundL at hf
    rw [List.any_eq_true] at hf
    obtain ⟨x, hx, he⟩ := hf
    have he : x.f0 = num := by simpa using he
    exact ⟨rfl, x.f1, by rw [← he]; exact load_in hi x hx⟩
  | false =>
    right
    unfold foundL at hf
    rw [List.any_eq_false] at hf
    have hne : ∀ x ∈ l, x.f0 ≠ num := fun x hx => by have := hf x hx; simpa using this
    refine ⟨rfl, load_out num hne, left_same fun x hx => ?_⟩
    have := hne x hx
    simp [this]
theorem fits_bytes {l : List S62} (h : ∀ x ∈ l, RecFits x) : ∀ x ∈ l, IsBytes x.f1 := fun x hx b hb => by
  have := (h x hx).2.2 b hb
  simp [Lit.wf, IntKind.min, IntKind.max, IntKind.signed, IntKind.bits] at this
  omega
end Go.Proofs.Ytcdpkdehogcjnaa.Print
