/- DiskOpens: for every disk's bytes, both numbers and every list of records the statement answers true, and all read afterwards as before; without condition. -/
import Derived.Test.YtcdpkdehogcjnaaRH
import Derived.Test.YtcdpkdehogcjnaaRG
import Derived.Test.YtcdpkdehogcjnaaR8
import Derived.Test.YtcdpkdehogcjnaaR9
import Derived.Test.YtcdpkdehogcjnaaRows
import Derived.WalkKit
import Derived.ProofKit
import Derived.OpenShut
import Derived.ShutString
import Derived.ChangeOld
import Derived.Below
import Derived.SizedLaws
set_option linter.unusedVariables false
set_option linter.unusedSimpArgs false
/-! DiskOpens, in plain Lean: what the program tells of a disk is what the reference tells. -/
namespace Go.Proofs.Ytcdpkdehogcjnaa.Print
open Go Go.RowKit Go.Proofs.YtcdpkdehogcjnaaW.PrintWords Go.Proofs.YtcdpkdehogcjnaaW.PrintLast Go.Proofs.YtcdpkdehogcjnaaW.PrintMore

theorem chain_all (d : List Int) (nb : Nat) (hd : nb * 64 ≤ d.length) : ∀ (m a : Nat) (used : List Nat) (all : List Int) (u : List Nat) (al : List Int), chainF d nb m a used all = some (u, al) → al.length = all.length + 62 * m ∧ ((∀ x ∈ used, x < nb) → ∀ x ∈ u, x < nb)
  | 0, a, used, all, u, al, h => by
    unfold chainF at h
    split at h
    · cases h; exact ⟨by omega, fun h => h⟩
    · cases h
  | m + 1, a, used, all, u, al, h => by
    unfold chainF at h
    split at h
    · rename_i hc
      obtain ⟨h1, h2⟩ := chain_all d nb hd m _ _ _ _ _ h
      have hb : (blkL d a).length = 64 := by
        have : (a + 1) * 64 ≤ nb * 64 := Nat.mul_le_mul_right 64 hc.2.1
        unfold blkL
        rw [List.length_take, List.length_drop]
        omega
      refine ⟨by rw [h1, List.length_append, List.length_drop, hb]; omega, fun hu => h2 (fun x hx => ?_)⟩
      rcases List.mem_append.1 hx with hx | hx
      · exact hu x hx
      · rw [List.mem_singleton.1 hx]; exact hc.2.1
    · cases h

theorem chain_bytes (d : List Int) (nb : Nat) (hb : IsBytes d) : ∀ (m a : Nat) (used : List Nat) (all : List Int) (u : List Nat) (al : List Int), chainF d nb m a used all = some (u, al) → IsBytes all → IsBytes al
  | 0, a, used, all, u, al, h, hy => by
    unfold chainF at h
    split at h
    · cases h; exact hy
    · cases h
  | m + 1, a, used, all, u, al, h, hy => by
    unfold chainF at h
    split at h
    · refine chain_bytes d nb hb m _ _ _ _ _ h (fun x hx => ?_)
      rcases List.mem_append.1 hx with hx | hx
      · exact hy x hx
      · exact bytes_drop (bytes_take (bytes_drop hb _) _) _ x hx
    · cases h

def castL (u : List Nat) : List Int := u.map fun (a : Nat) => (a : Int)
theorem head_ref (xs : List Int) (hb : IsBytes xs) (nb i : Nat) (hn : nb * 64 ≤ xs.length) : match headF xs nb i with
    | none => (refHead xs nb i).2.2.2.2 = false
    | some st => refHead xs nb i = ((i : Int), st.ver, castL st.used, st.recs, true) ∧ ∀ x ∈ st.used, x < nb := by
  simp only [headF, refHead]
  split
  rotate_left
  · rename_i h
    split at h <;> rename_i h2
    · rw [if_pos h2]
      unfold headG at h
      split at h
      · cases h
      rename_i used all hch
      rw [hch]
      simp only
      split at h <;> rename_i hz
      rotate_left
      · cases h
      rw [if_pos hz]
      obtain ⟨hal, hul⟩ := chain_all xs nb hn _ _ _ _ _ _ hch
      have hle : (numb ((blkL xs i).drop 2 |>.take 2)).toNat ≤ all.length := by
        have := h2.2.2.2.2.2.1
        rw [hal]
        simp only [List.length_nil]
        omega
      have hlt : (all.take (numb ((blkL xs i).drop 2 |>.take 2)).toNat).length = (numb ((blkL xs i).drop 2 |>.take 2)).toNat := by rw [List.length_take]; omega
      have hr := recs_read (all.take (numb ((blkL xs i).drop 2 |>.take 2)).toNat) (bytes_take (chain_bytes xs nb hb _ _ _ _ _ _ hch (fun _ h => by cases h)) _)
      rw [hlt] at hr
      rw [hr, Option.map_eq_some_iff] at h
      obtain ⟨rs, h, rfl⟩ := h
      split at h <;> rename_i h3
      rotate_left
      · cases h
      injection h with h
      refine ⟨?_, hul (fun _ h => by cases h)⟩
      rw [h3, h]
      rfl
    · cases h
  · rename_i h
    split at h <;> rename_i h2
    · rw [if_pos h2]
      unfold headG at h
      split at h
      · rename_i hch
        rw [hch]
      rename_i used all hch
      rw [hch]
      simp only
      split at h <;> rename_i hz
      rotate_left
      · rw [if_neg hz]
      rw [if_pos hz]
      obtain ⟨hal, hul⟩ := chain_all xs nb hn _ _ _ _ _ _ hch
      have hle : (numb ((blkL xs i).drop 2 |>.take 2)).toNat ≤ all.length := by
        have := h2.2.2.2.2.2.1
        rw [hal]
        simp only [List.length_nil]
        omega
      have hlt : (all.take (numb ((blkL xs i).drop 2 |>.take 2)).toNat).length = (numb ((blkL xs i).drop 2 |>.take 2)).toNat := by rw [List.length_take]; omega
      have hr := recs_read (all.take (numb ((blkL xs i).drop 2 |>.take 2)).toNat) (bytes_take (chain_bytes xs nb hb _ _ _ _ _ _ hch (fun _ h => by cases h)) _)
      rw [hlt] at hr
      rw [hr, Option.map_eq_none_iff] at h
      split at h <;> rename_i h3
      · cases h
      · simpa using h3
    · rw [if_neg h2]

theorem sizeB (xs : List Int) : berylref20_blocks.f xs = some (if sizeOk xs.length then ((xs.length / 64 : Nat) : Int) else 0) ∨ xs.length > 9223372036854775807 := by
  rcases Nat.lt_or_ge 9223372036854775807 xs.length with h | h
  · exact .inr h
  refine .inl ?_
  have e1 : wrap64 ((xs.length : Int) / 64) = ((xs.length / 64 : Nat) : Int) := by unfold wrap64; omega
  unfold berylref20_blocks.f
  rw [e1]
  cases hs : sizeOk xs.length with
  | true =>
    unfold sizeOk at hs
    simp at hs
    obtain ⟨⟨h1, h2⟩, h3⟩ := hs
    rw [if_pos (by omega), if_neg (by omega), if_neg (by omega), if_pos rfl]
  | false =>
    simp only [Bool.false_eq_true, if_false]
    have hs' : ¬ (xs.length % 64 = 0 ∧ 8 ≤ xs.length / 64 ∧ xs.length / 64 ≤ 256) := fun h => by
      have : sizeOk xs.length = true := by unfold sizeOk; simp; omega
      rw [hs] at this
      cases this
    by_cases h1 : ((xs.length : Int) % 64) = 0
    · rw [if_pos h1]
      by_cases h2 : ((xs.length / 64 : Nat) : Int) < 8
      · rw [if_pos h2]
      · rw [if_neg h2, if_pos (by omega)]
    · rw [if_neg h1]

/-- the reference's state of a disk is the program's -/
def OpenRef (xs : List Int) (r : Int × Int × List Int × List S62 × Bool) : Prop := match diskF xs with
  | none => r.2.2.2.2 = false
  | some (j, st) => r = ((j : Int), st.ver, castL st.used, st.recs, true) ∧ ∀ x ∈ st.used, x < xs.length / 64
theorem open_ref (xs : List Int) (hb : IsBytes xs) (hl : xs.length ≤ 9223372036854775807) : ∃ r, berylref20_open.f xs = some r ∧ OpenRef xs r := by
  have hsz : berylref20_blocks.f xs = some (if sizeOk xs.length then ((xs.length / 64 : Nat) : Int) else 0) := (sizeB xs).resolve_right (by omega)
  unfold berylref20_open.f OpenRef diskF
  rw [hsz, Option.bind_some]
  cases hs : sizeOk xs.length with
  | false =>
    simp only [Bool.false_eq_true, if_false, if_true]
    exact ⟨_, rfl, rfl⟩
  | true =>
    have hs' := hs
    unfold sizeOk at hs'
    simp at hs'
    obtain ⟨⟨h1, h2⟩, h3⟩ := hs'
    have hnb : xs.length / 64 * 64 ≤ xs.length := Nat.div_mul_le_self _ _
    simp only [if_true]
    have e0 : berylref20_head.f xs 0 = some (refHead xs (xs.length / 64) 0) := by unfold berylref20_head.f; exact if_pos ⟨hb, hs, by omega, by omega⟩
    have e1 : berylref20_head.f xs 1 = some (refHead xs (xs.length / 64) 1) := by unfold berylref20_head.f; exact if_pos ⟨hb, hs, by omega, by omega⟩
    rw [if_neg (by omega), e0, e1, Option.bind_some, Option.bind_some]
    have r0 := head_ref xs hb (xs.length / 64) 0 hnb
    have r1 := head_ref xs hb (xs.length / 64) 1 hnb
    simp only [bestK]
    generalize refHead xs (xs.length / 64) 0 = p0 at *
    generalize refHead xs (xs.length / 64) 1 = p1 at *
    cases h0 : headF xs (xs.length / 64) 0 with
    | none =>
      rw [h0] at r0
      cases h1 : headF xs (xs.length / 64) 1 with
      | none =>
        rw [h1] at r1
        simp only at r0 r1 ⊢
        rw [r1]
        exact ⟨_, rfl, r0⟩
      | some s1 =>
        rw [h1] at r1
        simp only at r0 r1 ⊢
        obtain ⟨rfl, hu⟩ := r1
        simp only [if_true]
        rw [r0]
        exact ⟨_, rfl, rfl, hu⟩
    | some s0 =>
      rw [h0] at r0
      cases h1 : headF xs (xs.length / 64) 1 with
      | none =>
        rw [h1] at r1
        simp only at r0 r1 ⊢
        obtain ⟨rfl, hu⟩ := r0
        rw [r1]
        exact ⟨_, rfl, rfl, hu⟩
      | some s1 =>
        rw [h1] at r1
        simp only at r0 r1 ⊢
        obtain ⟨rfl, hu0⟩ := r0
        obtain ⟨rfl, hu1⟩ := r1
        simp only [if_true]
        by_cases hv : s1.ver > s0.ver
        · rw [if_pos hv, if_pos hv]
          exact ⟨_, rfl, rfl, hu1⟩
        · rw [if_neg hv, if_neg hv]
          exact ⟨_, rfl, rfl, hu0⟩

theorem ref_facts (xs : List Int) (hb : IsBytes xs) (hl : xs.length ≤ 9223372036854775807) : match diskF xs with
    | none => berylref20_Version.f xs = some (0, 200) ∧ berylref20_Check.f xs = some 200 ∧ berylref20_Open.f xs = some ([], 200) ∧ ∀ k, berylref20_Free.f k xs = some ([], 200)
    | some (j, st) => berylref20_Version.f xs = some (st.ver, 0) ∧ berylref20_Check.f xs = some 0 ∧ berylref20_Open.f xs = some (st.recs, 0) ∧
        (∀ k, berylref20_Free.f k xs = (berylref20_free.f k xs j st.ver (castL st.used) st.recs).bind fun r => some (r, 0)) ∧ ∀ x ∈ st.used, x < xs.length / 64 := by
  obtain ⟨r, hr, ho⟩ := open_ref xs hb hl
  unfold OpenRef at ho
  split at ho <;> rename_i h
  · simp only [berylref20_Version.f, berylref20_Check.f, berylref20_Open.f, berylref20_Free.f, hr, Option.bind_some, ho, Bool.false_eq_true, if_false]
    exact ⟨trivial, trivial, trivial, fun _ => trivial⟩
  · obtain ⟨rfl, hu⟩ := ho
    simp only [berylref20_Version.f, berylref20_Check.f, berylref20_Open.f, berylref20_Free.f, hr, Option.bind_some, if_true]
    exact ⟨trivial, trivial, trivial, fun _ => trivial, hu⟩

theorem free_l1 (u : List Nat) (nb : Nat) (hnb : nb ≤ 1000) : ∀ (m i k : Nat) (acc : List Int), i + m = nb → m < k → acc.length ≤ i → berylref20_free.l1 k (boolsF nb u) acc (i : Int) = some (acc ++ freeL u i m) := by
  intro m
  induction m with
  | zero =>
    intro i k acc hi hk _
    obtain ⟨k, rfl⟩ : ∃ j, k = j + 1 := ⟨k - 1, by omega⟩
    rw [berylref20_free.l1, boolsF_len, if_neg (by omega), freeL, List.append_nil]
  | succ m ih =>
    intro i k acc hi hk ha
    obtain ⟨k, rfl⟩ : ∃ j, k = j + 1 := ⟨k - 1, by omega⟩
    have hlt : i < nb := by omega
    rw [berylref20_free.l1, boolsF_len, if_pos (by omega), if_pos (by omega), boolsF_get _ _ _ hlt, wSucc i 1000 (by omega) (by omega), freeL]
    cases u.contains i with
    | true =>
      rw [if_pos rfl, if_pos rfl]
      exact ih (i + 1) k acc (by omega) (by omega) (by omega)
    | false =>
      simp only [Bool.false_eq_true, if_false]
      rw [if_pos (by omega), ih (i + 1) k _ (by omega) (by omega) (by simp; omega), List.append_assoc]
      rfl
theorem castL_get (u : List Nat) (i : Nat) (h : i < u.length) : rd (castL u) (i : Int) = (u[i] : Int) := by
  rw [rdN _ i (by simpa [castL] using h)]
  simp [castL]
theorem free_l0 (u : List Nat) (nb : Nat) (h2 : 2 ≤ nb) (hnb : nb ≤ 1000) (hu : ∀ x ∈ u, x < nb) (j v : Int) (rs : List S62) (hul : u.length ≤ 1000) : ∀ (m i k : Nat), i + m = u.length → m + nb < k →
    berylref20_free.l0 k (boolsF nb (u.take i)) (i : Int) j v (castL u) rs = some (freeL u 2 (nb - 2)) := by
  intro m
  induction m with
  | zero =>
    intro i k hi hk
    obtain ⟨k, rfl⟩ : ∃ j, k = j + 1 := ⟨k - 1, by omega⟩
    have hc : (castL u).length = u.length := by simp [castL]
    rw [berylref20_free.l0, hc, if_neg (by omega), List.take_of_length_le (by omega)]
    have := free_l1 u nb hnb (nb - 2) 2 k [] (by omega) (by omega) (by simp)
    simpa using this
  | succ m ih =>
    intro i k hi hk
    obtain ⟨k, rfl⟩ : ∃ j, k = j + 1 := ⟨k - 1, by omega⟩
    have hlt : i < u.length := by omega
    have hc : (castL u).length = u.length := by simp [castL]
    have hx := hu u[i] (List.getElem_mem hlt)
    rw [berylref20_free.l0, hc, if_pos (by omega), if_pos (by omega), castL_get u i hlt, if_pos (by omega), boolsF_len, if_pos (by omega), boolsF_set, wSucc i 1000 (by omega) (by omega),
      show u.take i ++ [u[i]] = u.take (i + 1) by rw [List.take_succ_eq_append_getElem hlt]]
    exact ih (i + 1) k (by omega) (by omega)
theorem free_ref (xs : List Int) (hs : sizeOk xs.length = true) (u : List Nat) (hu : ∀ x ∈ u, x < xs.length / 64) (hul : u.length ≤ 1000) (j v : Int) (rs : List S62) (k : Nat) (hk : 2000 ≤ k) :
    berylref20_free.f k xs j v (castL u) rs = some (freeL u 2 (xs.length / 64 - 2)) := by
  have hs' := hs
  unfold sizeOk at hs'
  simp at hs'
  obtain ⟨⟨h1, h2⟩, h3⟩ := hs'
  have hsz : berylref20_blocks.f xs = some ((xs.length / 64 : Nat) : Int) := by
    have := (sizeB xs).resolve_right (by omega)
    rw [hs] at this
    exact this
  unfold berylref20_free.f
  rw [hsz, Option.bind_some, if_pos (by omega), Int.toNat_natCast, if_pos (by omega), ← boolsF_nil]
  have := free_l0 u (xs.length / 64) (by omega) (by omega) hu j v rs hul u.length 0 k (by omega) (by omega)
  simpa using this

theorem load_ref (num : Int) (l : List S62) (hl : l.length ≤ 9223372036854775807) : ∀ (m i k : Nat), i + m = l.length → m < k → berylref20_Load.l0 k num l (i : Int) = some (loadF num (l.drop i)) := by
  intro m
  induction m with
  | zero =>
    intro i k hi hk
    obtain ⟨k, rfl⟩ : ∃ j, k = j + 1 := ⟨k - 1, by omega⟩
    rw [berylref20_Load.l0, if_neg (by omega), List.drop_of_length_le (by omega)]
    rfl
  | succ m ih =>
    intro i k hi hk
    obtain ⟨k, rfl⟩ : ∃ j, k = j + 1 := ⟨k - 1, by omega⟩
    have hlt : i < l.length := by omega
    rw [berylref20_Load.l0, if_pos (by omega), if_pos (by omega), rdP l i hlt, wSucc i _ hlt hl, ih (i + 1) k (by omega) (by omega), List.drop_eq_getElem_cons hlt, loadF]
    by_cases h : l[i].f0 = num
    · rw [if_pos h, if_pos h]
    · rw [if_neg h, if_neg h]

theorem putLong_k (b : List Int) (d : Int) (hb : b.length ≤ 140737488355000) : berylref20_putLong.f 9 b d = some (b ++ longL d) := by
  unfold berylref20_putLong.f
  rw [berylref20_putLong.l0, if_pos (by decide +kernel), if_pos (by decide +kernel), if_pos (by omega)]
  rw [berylref20_putLong.l0, if_pos (by decide +kernel), if_pos (by decide +kernel), if_pos (by simp; omega)]
  rw [berylref20_putLong.l0, if_pos (by decide +kernel), if_pos (by decide +kernel), if_pos (by simp; omega)]
  rw [berylref20_putLong.l0, if_pos (by decide +kernel), if_pos (by decide +kernel), if_pos (by simp; omega)]
  rw [berylref20_putLong.l0, if_pos (by decide +kernel), if_pos (by decide +kernel), if_pos (by simp; omega)]
  rw [berylref20_putLong.l0, if_pos (by decide +kernel), if_pos (by decide +kernel), if_pos (by simp; omega)]
  rw [berylref20_putLong.l0, if_pos (by decide +kernel), if_pos (by decide +kernel), if_pos (by simp; omega)]
  rw [berylref20_putLong.l0, if_pos (by decide +kernel), if_pos (by decide +kernel), if_pos (by simp; omega)]
  rw [berylref20_putLong.l0, if_neg (by decide +kernel)]
  simp [longL, wrap64, shr, IntKind.bits]
theorem putLong_at (b : List Int) (d : Int) (hb : b.length ≤ 140737488355000) (k : Nat) (hk : 9 ≤ k) : berylref20_putLong.f k b d = some (b ++ longL d) :=
  mono_to (f := fun k => berylref20_putLong.f k b d) (fun k => berylref20_putLong.mono b d k) (putLong_k b d hb) k hk
theorem putWord_k (b : List Int) (n : Nat) (hn : n ≤ 1000000000000) (hb : b.length ≤ 140737488355000) : berylref20_putWord.f b (n : Int) = some (b ++ wordL n) := by
  unfold berylref20_putWord.f
  rw [Option.bind_some, if_pos (by simp; omega), Int.tdiv_eq_ediv_of_nonneg (by omega), Int.tmod_eq_emod_of_nonneg (by omega)]
  have e : wrap64 ((n : Int) / 256) = (n : Int) / 256 := by unfold wrap64; omega
  rw [e]
  simp [wordL]
theorem written_l0 (l : List S62) (hl : l.length ≤ 9223372036854775807) : ∀ (m i k : Nat) (acc : List Int), i + m = l.length → m + 9 < k → acc.length + (recsB (l.drop i)).length ≤ 70368744177664 → (∀ x ∈ l, x.f1.length ≤ 1000000000000) →
    berylref20_written.l0 k l acc (i : Int) = some (acc ++ recsB (l.drop i)) := by
  intro m
  induction m with
  | zero =>
    intro i k acc hi hk _ _
    obtain ⟨k, rfl⟩ : ∃ j, k = j + 1 := ⟨k - 1, by omega⟩
    rw [berylref20_written.l0, if_neg (by omega), List.drop_of_length_le (by omega)]
    simp [recsB]
  | succ m ih =>
    intro i k acc hi hk hb hx
    obtain ⟨k, rfl⟩ : ∃ j, k = j + 1 := ⟨k - 1, by omega⟩
    have hlt : i < l.length := by omega
    rw [recsB_step l i hlt] at hb ⊢
    rw [List.length_append] at hb
    have hrl := recB_len l[i]
    have e8 : (longL l[i].f0).length = 8 := rfl
    have e2 : (wordL (l[i].f1.length : Int)).length = 2 := rfl
    rw [berylref20_written.l0, if_pos (by omega), if_pos (by omega), rdP l i hlt, putLong_at _ _ (by omega) k (by omega), Option.bind_some, putWord_k _ _ (hx _ (List.getElem_mem hlt)) (by rw [List.length_append, e8]; omega), Option.bind_some,
      if_pos (by rw [List.length_append, List.length_append, e8, e2]; omega), wSucc i _ hlt hl]
    have : acc ++ longL l[i].f0 ++ wordL (l[i].f1.length : Int) ++ l[i].f1 = acc ++ recB l[i] := by simp [recB]
    rw [this, ih (i + 1) k _ (by omega) (by omega) (by rw [List.length_append]; omega) hx, List.append_assoc]
theorem written_k (l : List S62) (hl : l.length ≤ 9223372036854775807) (hb : (recsB l).length ≤ 70368744177664) (hx : ∀ x ∈ l, x.f1.length ≤ 1000000000000) (k : Nat) (hk : l.length + 10 ≤ k) : berylref20_written.f k l = some (recsB l) := by
  unfold berylref20_written.f
  have := written_l0 l hl l.length 0 k [] (by omega) (by omega) (by simpa using hb) hx
  simpa using this
theorem same_ints (l : List Int) (hl : l.length ≤ 9223372036854775807) (k : Nat) (hk : l.length < k) : berylref20_SameInts.f k l l = some true := by
  have go : ∀ (m i k : Nat), i + m = l.length → m < k → berylref20_SameInts.l0 k l l (i : Int) = some true := by
    intro m
    induction m with
    | zero =>
      intro i k hi hk
      obtain ⟨k, rfl⟩ : ∃ j, k = j + 1 := ⟨k - 1, by omega⟩
      rw [berylref20_SameInts.l0, if_neg (by omega)]
    | succ m ih =>
      intro i k hi hk
      obtain ⟨k, rfl⟩ : ∃ j, k = j + 1 := ⟨k - 1, by omega⟩
      have e2 : wrap64 ((i : Int) + 1) = ((i + 1 : Nat) : Int) := by unfold wrap64; omega
      rw [berylref20_SameInts.l0, if_pos (by omega), if_pos (by omega), if_pos (by omega), e2, ih (i + 1) k (by omega) (by omega)]
      simp
  unfold berylref20_SameInts.f
  have h := go l.length 0 k (by omega) hk
  simpa using h
theorem format_ref (n : Int) : ∃ r, berylref20_Format.f n = some r ∧ disk_Format.f n = some r := by
  unfold berylref20_Format.f disk_Format.f
  by_cases h1 : n < 8
  · rw [if_pos h1, if_neg (by omega)]; exact ⟨_, rfl, rfl⟩
  by_cases h2 : n > 256
  · rw [if_neg h1, if_pos h2, if_neg (by omega)]; exact ⟨_, rfl, rfl⟩
  have e : wrap64 (n * 64) = n * 64 := by unfold wrap64; omega
  rw [if_neg h1, if_neg h2, e, if_pos (by omega), if_pos (by omega), Option.bind_some, if_pos (by simp; omega), if_pos (by simp; omega), if_pos (by omega)]
  refine ⟨_, rfl, ?_⟩
  congr 2
  obtain ⟨m, hm⟩ : ∃ m, (n * 64).toNat = 64 + m := ⟨(n * 64).toNat - 64, by omega⟩
  have hm2 : n.toNat * 64 - 64 = m := by omega
  unfold formatL
  rw [hm, hm2, ← List.replicate_append_replicate]
  rw [List.set_append_left _ _ (by decide), List.set_append_left _ _ (by decide)]
  congr 1
theorem room_ref (n : Int) : ∃ r, berylref20_Room.f n = some r ∧ disk_Room.f n = some r := by
  unfold berylref20_Room.f disk_Room.f
  rw [blocks_f, Option.bind_some]
  by_cases h1 : n < 8
  · rw [if_pos h1, if_neg (by simp; omega)]; exact ⟨_, rfl, rfl⟩
  by_cases h2 : n > 256
  · rw [if_neg h1, if_pos h2, if_neg (by simp; omega)]; exact ⟨_, rfl, rfl⟩
  rw [if_neg h1, if_neg h2, if_pos (by simp; omega)]
  unfold berylref20_room.f disk_room.f
  exact ⟨_, rfl, rfl⟩
end Go.Proofs.Ytcdpkdehogcjnaa.Print

/-! DiskOpens, in plain Lean: the statement. -/
namespace Go.Proofs.Ytcdpkdehogcjnaa.Print
open Go Go.RowKit Go.Proofs.YtcdpkdehogcjnaaW.PrintWords Go.Proofs.YtcdpkdehogcjnaaW.PrintLast Go.Proofs.YtcdpkdehogcjnaaW.PrintMore

theorem recsF_len : ∀ (f : Nat) (last : Int) (xs : List Int) (l : List S62), recsF f last xs = some l → l.length ≤ f
  | 0, last, xs, l, h => by
    unfold recsF at h
    split at h
    · cases h; exact Nat.le_refl _
    · cases h
  | f + 1, last, xs, l, h => by
    unfold recsF at h
    split at h
    · cases h; exact Nat.zero_le _
    split at h
    · rw [Option.map_eq_some_iff] at h
      obtain ⟨l', h, rfl⟩ := h
      have := recsF_len f _ _ _ h
      simp only [List.length_cons]
      omega
    · cases h
theorem head_recs {xs : List Int} {nb i : Nat} {st : HSt} (h : headF xs nb i = some st) : st.recs.length ≤ (nb - 2) / 2 * 62 := by
  unfold headF at h
  simp only at h
  split at h
  · rename_i ho
    unfold headG at h
    split at h
    · cases h
    · split at h
      · rw [Option.map_eq_some_iff] at h
        obtain ⟨rs, hr, rfl⟩ := h
        have h1 := recsF_len _ _ _ _ hr
        have h2 := ho.2.2.2.2.2.1
        have h3 := ho.2.2.2.2.1
        have h4 := Nat.mul_le_mul_right 62 h3
        exact Nat.le_trans h1 (Nat.le_trans h2 h4)
      · cases h
  · cases h
theorem disk_recs {xs : List Int} {j : Nat} {st : HSt} (h : diskF xs = some (j, st)) : st.recs.length ≤ 8000 := by
  obtain ⟨_, _, h256, _, hh, _⟩ := disk_facts h
  have h1 := head_recs hh
  generalize xs.length / 64 = nb at h1 h256
  omega

theorem opens_law (l0 : List Int) (a1 a2 : Int) (l3 : List S62) (hb : IsBytes l0) (hl : l3.length * 32 ≤ 140737488351232) (hB : ∀ x ∈ l3, RecFits x) : ∃ k, beryllaw20_DiskOpens.f k l0 a1 a2 l3 = some true := by
  obtain ⟨b, hfew, hbnd⟩ := few_f l0 l3 hl hB
  obtain ⟨n, hn⟩ : ∃ n, n = l3.length + 20000 := ⟨_, rfl⟩
  refine ⟨n + 2, ?_⟩
  unfold beryllaw20_DiskOpens.f beryllaw20_awake.f
  rw [Option.bind_some, hfew _ (by omega), Option.bind_some]
  cases b with
  | false => rw [if_neg (by simp)]
  | true =>
    obtain ⟨hd, h300, htot⟩ := hbnd rfl
    have hrl := recs_len l3
    have hrb : (recsB l3).length ≤ 23000 := by omega
    have hx3 : ∀ x ∈ l3, x.f1.length ≤ 1000000000000 := fun x hx => by
      have : x.f1.length ≤ totN l3 := by
        clear hfew hbnd hrl hrb hl hn h300 htot
        induction l3 with
        | nil => cases hx
        | cons r l ih =>
          have e : totN (r :: l) = r.f1.length + totN l := rfl
          rw [e]
          rcases List.mem_cons.1 hx with h | h
          · subst h; omega
          · have := ih (fun x hx => hB x (List.mem_cons_of_mem _ hx)) h
            omega
      omega
    obtain ⟨fr, hf1, hf2⟩ := format_ref a2
    obtain ⟨rr, hr1, hr2⟩ := room_ref a2
    have hby : disk_Bytes.f n l3 = some (if askedF l3 = 0 then (((recsB l3).length : Int), 0) else (0, askedF l3)) := bytes_k l3 (by omega) (by omega) n (by omega)
    have hbr : berylref20_Bytes.f n l3 = some (if askedF l3 = 0 then (((recsB l3).length : Int), 0) else (0, 1)) := by
      unfold berylref20_Bytes.f
      rw [right_k l3 (by omega) n (by omega), Option.bind_some]
      by_cases h : askedF l3 = 0
      · rw [h, if_pos (by rfl), if_pos rfl, written_k l3 (by omega) (by omega) hx3 n (by omega), Option.bind_some]
      · rw [if_neg (by simpa using h), if_neg h]
    have hak : askedF l3 = 0 ∨ askedF l3 = 1 := asked_vals l3 none
    have hj1 : ∀ (fl : List Int) (fe : Int), disk_Free.f l0 = some (fl, fe) → berylref20_Free.f n l0 = some (fl, fe) → fl.length ≤ 1000 → beryllaw20_DiskOpens.j1 (n + 1) l0 a2 l3 true false = some true := by
      intro fl fe h1 h2 h3
      rw [beryllaw20_DiskOpens.j1, if_neg (by simp), h1, Option.bind_some, h2, Option.bind_some, hr2, Option.bind_some, hr1, Option.bind_some, hby, Option.bind_some, hbr, Option.bind_some, if_pos rfl, same_ints fl (by omega) n (by omega), Option.bind_some, if_pos rfl]
      simp only [if_true]
      rcases hak with h | h
      · rw [h]; simp
      · rw [h]; simp
    have hfacts := ref_facts l0 hb (by omega)
    rw [if_pos rfl, hf2, Option.bind_some, hf1, Option.bind_some]
    obtain ⟨o, ho⟩ : ∃ o, o = diskF l0 := ⟨_, rfl⟩
    rw [← ho] at hfacts
    cases o with
    | none =>
      obtain ⟨q1, q2, q3, q4⟩ := hfacts
      have p1 : disk_Version.f l0 = some (0, 200) := by unfold disk_Version.f; rw [if_pos hb, ← ho]
      have p2 : disk_Check.f l0 = some 200 := by unfold disk_Check.f; rw [if_pos hb, ← ho]
      have p3 : disk_Open.f l0 = some ([], 200) := by unfold disk_Open.f; rw [if_pos hb, ← ho]
      have p4 : disk_Free.f l0 = some ([], 200) := by unfold disk_Free.f; rw [if_pos hb, ← ho]
      have p5 : disk_Load.f l0 a1 = some ([], 200) := by unfold disk_Load.f; rw [if_pos hb, ← ho]
      have q5 : berylref20_Load.f (n + 1) l0 a1 = some ([], 200) := by unfold berylref20_Load.f; rw [q3, Option.bind_some, if_neg (by simp)]
      rw [p1, Option.bind_some, q1, Option.bind_some]
      simp only [if_true]
      rw [p2, Option.bind_some, q2, Option.bind_some]
      simp only [if_true]
      rw [beryllaw20_DiskOpens.j0, if_neg (by simp), p3, Option.bind_some, q3, Option.bind_some, p5, Option.bind_some, q5, Option.bind_some, same_recs [] (by simp) (n + 1) (by simp), Option.bind_some]
      simp only [if_true]
      exact hj1 [] 200 p4 (q4 n) (by simp)
    | some q =>
      obtain ⟨j, st⟩ := q
      obtain ⟨q1, q2, q3, q4, q6⟩ := hfacts
      obtain ⟨e64, h8, h256, _, _, _, _, hu⟩ := disk_facts ho.symm
      have hrc := disk_recs ho.symm
      have hs : sizeOk l0.length = true := by unfold sizeOk; simp; omega
      have hul : st.used.length ≤ 1000 := by
        generalize l0.length / 64 = nb at hu h256
        omega
      have q7 : berylref20_Free.f n l0 = some (freeL st.used 2 (l0.length / 64 - 2), 0) := by
        rw [q4 n, free_ref l0 hs st.used q6 hul _ _ _ n (by omega), Option.bind_some]
      have hfl : (freeL st.used 2 (l0.length / 64 - 2)).length ≤ 1000 := by
        have := freeL_len st.used (l0.length / 64 - 2) 2
        exact Nat.le_trans this (by omega)
      have p1 : disk_Version.f l0 = some (st.ver, 0) := by unfold disk_Version.f; rw [if_pos hb, ← ho]
      have p2 : disk_Check.f l0 = some 0 := by unfold disk_Check.f; rw [if_pos hb, ← ho]
      have p3 : disk_Open.f l0 = some (st.recs, 0) := by unfold disk_Open.f; rw [if_pos hb, ← ho]
      have p4 : disk_Free.f l0 = some (freeL st.used 2 (l0.length / 64 - 2), 0) := by unfold disk_Free.f; rw [if_pos hb, ← ho]
      have p5 : disk_Load.f l0 a1 = some (loadF a1 st.recs) := by unfold disk_Load.f; rw [if_pos hb, ← ho]
      have q5 : berylref20_Load.f (n + 1) l0 a1 = some (loadF a1 st.recs) := by
        unfold berylref20_Load.f
        rw [q3, Option.bind_some, if_pos rfl]
        have := load_ref a1 st.recs (by omega) st.recs.length 0 (n + 1) (by omega) (by omega)
        simpa using this
      rw [p1, Option.bind_some, q1, Option.bind_some]
      simp only [if_true]
      rw [p2, Option.bind_some, q2, Option.bind_some]
      have hne : ((0 : Int) != 0) = false := rfl
      simp only [if_true, hne]
      rw [beryllaw20_DiskOpens.j0, if_neg (by simp), p3, Option.bind_some, q3, Option.bind_some, p5, Option.bind_some, q5, Option.bind_some, same_recs st.recs (by omega) (n + 1) (by omega), Option.bind_some]
      have hne2 : ((loadF a1 st.recs).2 != (loadF a1 st.recs).2) = false := by simp
      simp only [if_true, hne2]
      exact hj1 _ 0 p4 q7 hfl
end Go.Proofs.Ytcdpkdehogcjnaa.Print

namespace Go.Proofs.Ytcdpkdehogcjnaa.diskOpens
open Go Go.ChangeShapes Go.WideShapes Go.ChangeAt Go.RowKit Go.Proofs.Ytcdpkdehogcjnaa.Print
open Go.Proofs.YtcdpkdehogcjnaaW.PrintWords
theorem own : ownKnob Try.prog.godebug = none := by kernel_rfl
theorem laidOut : laidOutB Try.prog = true := by kernel_rfl

theorem small {H : Type} {ts : List TypeId} {ds : List (DataW H)} (hsz : (DataW.weightsEach Try.prog ts ds).all (· ≤ reachBytes) = true) {j : Nat} {t : TypeId} {d : DataW H} (ht : ts[j]? = some t) (hd : ds[j]? = some d) : ∀ n ∈ d.weights Try.prog t, n ≤ reachBytes := by
  intro n hn
  have := List.all_eq_true.1 hsz _ (DataW.weights_mem_each ht hd n hn)
  simpa using this

theorem bytes_of (xs : List Int) (h : ∀ b ∈ xs, (Lit.int .u8 b).wf = true) : IsBytes xs := by
  intro b hb
  have := h b hb
  simp [Lit.wf, IntKind.min, IntKind.max, IntKind.signed, IntKind.bits] at this
  omega

set_option maxRecDepth 100000 in
theorem lifted (os : Os) (started : os.Started) (H : Type) (enc : TypeId × Value → H) :
    ReturnsInHanded {} Try.checked os 5 .any (Rows.diskOpensSpec.pre6 enc Try.prog Try.f5 Rows.diskOpensRow.domain false) (Rows.diskOpensSpec.post enc Try.prog Try.f5 false true false false) := by
  refine returnsInHanded_of_change_sized (C := Try.checked) own started (by kernel_rfl) Try.func5
    (ChangeSpec.witness6 (enc := enc) (C := Try.checked) false ⟨#[], #[.slice none 0 0, .int .i64 0, .int .i64 0, .slice none 0 0], []⟩ 8 (by kernel_rfl) (by kernel_rfl) (by kernel_rfl) (by kernel_rfl)) ?_
  intro W base args ds gs before hval0 hW hcnd hsz0 _
  have hsz : (DataW.weightsEach Try.prog (Try.f5.params.toList ++ Rows.diskOpensSpec.plain.varTypes Try.prog) (ds ++ gs)).all (· ≤ reachBytes) = true := hsz0
  have hval : ∀ (j : Nat) t v, Try.f5.params[j]? = some t → args[j]? = some v → Value.okWide Try.prog W .any base t v := hval0
  have hW' := hW
  obtain ⟨p, q, hA0, hV, rfl, hfz, hnd⟩ := hW
  have hA : DataW.TrodAll enc Try.prog W 0 (fun _ => true) true Try.f5.params.toList args.toList ds p := hA0
  rw [Try.params5] at hA hval hsz
  obtain ⟨v0, vs0, d0, ds0, p0, q0, hargs, rfl, rfl, h0, r0⟩ := trodAll_cons hA
  obtain ⟨v1, vs1, d1, ds1, p1, q1, rfl, rfl, rfl, h1, r1⟩ := trodAll_cons r0
  obtain ⟨v2, vs2, d2, ds2, p2, q2, rfl, rfl, rfl, h2, r2⟩ := trodAll_cons r1
  obtain ⟨v3, vs3, d3, ds3, p3, q3, rfl, rfl, rfl, h3, r3⟩ := trodAll_cons r2
  obtain ⟨rfl, rfl, rfl⟩ := trodAll_nil r3
  obtain rfl : args = #[v0, v1, v2, v3] := by cases args; simp_all
  obtain ⟨rfl, rfl⟩ := trodVars_none hV
  obtain ⟨a0, len0, cap0, rfl⟩ := okWide_slice Try.underlying22 (hval 0 22 v0 rfl rfl)
  obtain ⟨a1, rfl, rfl, rfl, w1⟩ := open_int Try.underlying3 (hval 1 3 v1 rfl rfl) h1
  obtain ⟨a2, rfl, rfl, rfl, w2⟩ := open_int Try.underlying3 (hval 2 3 v2 rfl rfl) h2
  obtain ⟨a3, len3, cap3, rfl⟩ := okWide_slice Try.underlying23 (hval 3 23 v3 rfl rfl)
  have k0 := h0
  have lt0 : ∀ x ∈ p0, x.block < W.heap.size := by obtain ⟨m, hm⟩ := k0; exact DataW.trod_lt m _ _ _ hm
  have k3 := h3
  have lt3 : ∀ x ∈ p3, x.block < W.heap.size := by obtain ⟨m, hm⟩ := k3; exact DataW.trod_lt m _ _ _ hm
  obtain ⟨A0, c0, l0, e0, hc0, hr0, hz0, hw0⟩ := (by obtain ⟨m, hm⟩ := h0; exact lift_bytes (v := .slice a0 len0 cap0) (by simpa [Value.cells] using hm) (small hsz (j := 0) rfl rfl) : ∃ (A : Option Addr) (c : Nat) (xs : List Int), Value.slice a0 len0 cap0 = .slice A xs.length c ∧ xs.length ≤ c ∧ Kd.C (Kd.int .u8) W A xs.length xs ∧ xs.length ≤ 140737488351232 ∧ ∀ b ∈ xs, (Lit.int .u8 b).wf = true)
  injection e0 with e00 e01 e02
  subst e00 e01 e02
  obtain ⟨l3, e3, hc3, hr3, hz3, hw3⟩ := lift_recs h3 (small hsz (j := 3) rfl rfl)
  subst e3
  obtain ⟨k, hk⟩ := opens_law l0 a1 a2 l3 (bytes_of l0 hw0) hz3 hw3
  clear hA0 hval0 hsz0 hsz
  refine (beryllaw20_DiskOpens.calls k a0 cap0 l0 a1 a2 a3 cap3 l3 true W hr0 hc0 hr3 hc3 hk).mono fun e W' ⟨he, bel⟩ => ?_
  subst he
  exact ⟨_, rfl, _, _, _, [], _, [], hW', trodAll_mk1 (shut_bool Try.underlying4 _), (trodAll_cons_mk (Below.trod laidOut (by kernel_rfl) (of_decide_eq_true (by kernel_rfl)) k0 bel lt0) (trodAll_cons_mk (shut_int Try.underlying3 w1) (trodAll_cons_mk (shut_int Try.underlying3 w2) (trodAll_cons_mk (Below.trod laidOut (by kernel_rfl) (of_decide_eq_true (by kernel_rfl)) k3 bel lt3) trodAll_mk0)))), rfl, bel.frame _, fun h => by cases h⟩
theorem over : Rows.diskOpensRow.holds Try.pinned (OpenSpec.ofChange Rows.diskOpensSpec) :=
  OpenClaim.holds_of_wide 5 Try.f5 rfl rfl rfl rfl rfl rfl rfl ⟨rfl, rfl, rfl, rfl, rfl⟩ rfl rfl rfl rfl rfl (by kernel_rfl) Try.func5 (by kernel_rfl)
    (of_decide_eq_true (by kernel_rfl)) (by unfold Func.isWrapper; first | (rw [if_pos (by decide +kernel)]; kernel_rfl) | (rw [if_neg (by decide +kernel)]; exact ⟨rfl, rfl⟩))
    (fun os started H enc _ => lifted os started H enc)
theorem proved : Rows.DiskOpensSaid := over
#print axioms proved
end Go.Proofs.Ytcdpkdehogcjnaa.diskOpens
namespace Go.Proofs.Ytcdpkdehogcjnaa
/-- The row, under a short name, for the claim. -/
theorem diskOpens_holds : Rows.DiskOpensSaid := diskOpens.proved
end Go.Proofs.Ytcdpkdehogcjnaa
