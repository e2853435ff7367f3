/- The reference's opening of a disk, its free blocks and what it writes of records: the same as the program's. -/
import Derived.Test.YtcdpkdehogcjnaaGreatRK
import Derived.Test.YtcdpkdehogcjnaaGreatRF
import Derived.Test.YtcdpkdehogcjnaaGreatR8
import Derived.Test.YtcdpkdehogcjnaaGreatRC
import Derived.BigQuiet
import Derived.Deep.QuietTactic
set_option linter.unusedVariables false
set_option linter.unusedSimpArgs false
namespace Go.Proofs.YtcdpkdehogcjnaaGreat.Print
open Go Go.RowKit Go.Proofs.YtcdpkdehogcjnaaGreatW.PrintWords Go.Proofs.YtcdpkdehogcjnaaGreatW.PrintLast Go.Proofs.YtcdpkdehogcjnaaGreatW.PrintMore
theorem head_ref (xs : List Int) (hb : IsBytes xs) (nb i : Nat) (hn : nb * 64 ≤ xs.length) : match headF xs nb i with
  | none => (refHead xs nb i).2.2.2.2 = false
  | some st => refHead xs nb i = ((i : Int), st.ver, castL st.used, st.recs, true) ∧ ∀ x ∈ st.used, x < nb := by
 simp only [headF, refHead]
 split
 rotate_left
 ·rename_i h
  split at h <;> rename_i h2
  ·rw [if_pos h2]
   unfold headG at h
   split at h
   ·cases h
   rename_i used all hch
   rw [hch]
   simp only
   split at h <;> rename_i hz
   rotate_left
   ·cases h
   rw [if_pos hz]
   obtain ⟨hal, hul⟩ := chain_all xs nb hn _ _ _ _ _ _ hch
   have hle : (numb ((blkL xs i).drop 2 |>.take 2)).toNat ≤ all.length := by
    have := h2.2.2.2.2.2.1
    rw [hal]
    simp only [List.length_nil]
    omega
   have hlt : (all.take (numb ((blkL xs i).drop 2 |>.take 2)).toNat).length = (numb ((blkL xs i).drop 2 |>.take 2)).toNat := by rw [List.length_take]; omega
   have hr := recs_read (all.take (numb ((blkL xs i).drop 2 |>.take 2)).toNat) (bytes_take (chain_bytes xs nb hb _ _ _ _ _ _ hch (fun _ h => by cases h)) _)
   rw [hlt] at hr
   rw [hr, Option.map_eq_some_iff] at h
   obtain ⟨rs, h, rfl⟩ := h
   split at h <;> rename_i h3
   rotate_left
   ·cases h
   injection h with h
   refine ⟨?_, hul (fun _ h => by cases h)⟩
   rw [h3, h]
   rfl
  ·cases h
 ·rename_i h
  split at h <;> rename_i h2
  ·rw [if_pos h2]
   unfold headG at h
   split at h
   ·rename_i hch
    rw [hch]
   rename_i used all hch
   rw [hch]
   simp only
   split at h <;> rename_i hz
   rotate_left
   ·rw [if_neg hz]
   rw [if_pos hz]
   obtain ⟨hal, hul⟩ := chain_all xs nb hn _ _ _ _ _ _ hch
   have hle : (numb ((blkL xs i).drop 2 |>.take 2)).toNat ≤ all.length := by
    have := h2.2.2.2.2.2.1
    rw [hal]
    simp only [List.length_nil]
    omega
   have hlt : (all.take (numb ((blkL xs i).drop 2 |>.take 2)).toNat).length = (numb ((blkL xs i).drop 2 |>.take 2)).toNat := by rw [List.length_take]; omega
   have hr := recs_read (all.take (numb ((blkL xs i).drop 2 |>.take 2)).toNat) (bytes_take (chain_bytes xs nb hb _ _ _ _ _ _ hch (fun _ h => by cases h)) _)
   rw [hlt] at hr
   rw [hr, Option.map_eq_none_iff] at h
   split at h <;> rename_i h3
   ·cases h
   ·simpa using h3
  ·rw [if_neg h2]
theorem sizeB (xs : List Int) : berylref20_blocks.f xs = some (if sizeOk xs.length then ((xs.length / 64 : Nat) : Int) else 0) ∨ xs.length > 9223372036854775807 := by
 rcases Nat.lt_or_ge 9223372036854775807 xs.length with h | h
 ·exact .inr h
 refine .inl ?_
 have e1 : wrap64 ((xs.length : Int) / 64) = ((xs.length / 64 : Nat) : Int) := by unfold wrap64; omega
 unfold berylref20_blocks.f
 rw [e1]
 cases hs : sizeOk xs.length with
 | true =>
  unfold sizeOk at hs
  simp at hs
  obtain ⟨⟨h1, h2⟩, h3⟩ := hs
  rw [if_pos (by omega), if_neg (by omega), if_neg (by omega), if_pos rfl]
 | false =>
  simp only [Bool.false_eq_true, if_false]
  have hs' : ¬ (xs.length % 64 = 0 ∧ 8 ≤ xs.length / 64 ∧ xs.length / 64 ≤ 256) := fun h => by
   have : sizeOk xs.length = true := by unfold sizeOk; simp; omega
   rw [hs] at this
   cases this
  by_cases h1 : ((xs.length : Int) % 64) = 0
  ·rw [if_pos h1]
   by_cases h2 : ((xs.length / 64 : Nat) : Int) < 8
   ·rw [if_pos h2]
   ·rw [if_neg h2, if_pos (by omega)]
  ·rw [if_neg h1]
/-- the reference's state of a disk is the program's -/
def OpenRef (xs : List Int) (r : Int × Int × List Int × List S40 × Bool) : Prop := match diskF xs with
 | none => r.2.2.2.2 = false
 | some (j, st) => r = ((j : Int), st.ver, castL st.used, st.recs, true) ∧ ∀ x ∈ st.used, x < xs.length / 64
theorem open_ref (xs : List Int) (hb : IsBytes xs) (hl : xs.length ≤ 9223372036854775807) : ∃ r, berylref20_open.f xs = some r ∧ OpenRef xs r := by
 have hsz : berylref20_blocks.f xs = some (if sizeOk xs.length then ((xs.length / 64 : Nat) : Int) else 0) := (sizeB xs).resolve_right (by omega)
 unfold berylref20_open.f OpenRef diskF
 rw [hsz, Option.bind_some]
 cases hs : sizeOk xs.length with
 | false =>
  simp only [Bool.false_eq_true, if_false, if_true]
  exact ⟨_, rfl, rfl⟩
 | true =>
  have hs' := hs
  unfold sizeOk at hs'
  simp at hs'
  obtain ⟨⟨h1, h2⟩, h3⟩ := hs'
  have hnb : xs.length / 64 * 64 ≤ xs.length := Nat.div_mul_le_self _ _
  simp only [if_true]
  have e0 : berylref20_head.f xs 0 = some (refHead xs (xs.length / 64) 0) := by unfold berylref20_head.f; exact if_pos ⟨hb, hs, by omega, by omega⟩
  have e1 : berylref20_head.f xs 1 = some (refHead xs (xs.length / 64) 1) := by unfold berylref20_head.f; exact if_pos ⟨hb, hs, by omega, by omega⟩
  rw [if_neg (by omega), e0, e1, Option.bind_some, Option.bind_some]
  have r0 := head_ref xs hb (xs.length / 64) 0 hnb
  have r1 := head_ref xs hb (xs.length / 64) 1 hnb
  simp only [bestK]
  generalize refHead xs (xs.length / 64) 0 = p0 at *
  generalize refHead xs (xs.length / 64) 1 = p1 at *
  cases h0 : headF xs (xs.length / 64) 0 with
  | none =>
   rw [h0] at r0
   cases h1 : headF xs (xs.length / 64) 1 with
   | none =>
    rw [h1] at r1
    simp only at r0 r1 ⊢
    rw [r1]
    exact ⟨_, rfl, r0⟩
   | some s1 =>
    rw [h1] at r1
    simp only at r0 r1 ⊢
    obtain ⟨rfl, hu⟩ := r1
    simp only [if_true]
    rw [r0]
    exact ⟨_, rfl, rfl, hu⟩
  | some s0 =>
   rw [h0] at r0
   cases h1 : headF xs (xs.length / 64) 1 with
   | none =>
    rw [h1] at r1
    simp only at r0 r1 ⊢
    obtain ⟨rfl, hu⟩ := r0
    rw [r1]
    exact ⟨_, rfl, rfl, hu⟩
   | some s1 =>
    rw [h1] at r1
    simp only at r0 r1 ⊢
    obtain ⟨rfl, hu0⟩ := r0
    obtain ⟨rfl, hu1⟩ := r1
    simp only [if_true]
    by_cases hv : s1.ver > s0.ver
    ·rw [if_pos hv, if_pos hv]
     exact ⟨_, rfl, rfl, hu1⟩
    ·rw [if_neg hv, if_neg hv]
     exact ⟨_, rfl, rfl, hu0⟩
theorem free_l1 (u : List Nat) (nb : Nat) (hnb : nb ≤ 1000) : ∀ (m i k : Nat) (acc : List Int), i + m = nb → m < k → acc.length ≤ i → berylref20_free.l1 k (boolsF nb u) acc (i : Int) = some (acc ++ freeL u i m) := by
 intro m
 induction m with
 | zero =>
  intro i k acc hi hk _
  obtain ⟨k, rfl⟩ : ∃ j, k = j + 1 := ⟨k - 1, by omega⟩
  rw [berylref20_free.l1, boolsF_len, if_neg (by omega), freeL, List.append_nil]
 | succ m ih =>
  intro i k acc hi hk ha
  obtain ⟨k, rfl⟩ : ∃ j, k = j + 1 := ⟨k - 1, by omega⟩
  have hlt : i < nb := by omega
  rw [berylref20_free.l1, boolsF_len, if_pos (by omega), if_pos (by omega), boolsF_get _ _ _ hlt, wSucc i 1000 (by omega) (by omega), freeL]
  cases u.contains i with
  | true =>
   rw [if_pos rfl, if_pos rfl]
   exact ih (i + 1) k acc (by omega) (by omega) (by omega)
  | false =>
   simp only [Bool.false_eq_true, if_false]
   rw [if_pos (by omega), ih (i + 1) k _ (by omega) (by omega) (by simp; omega), List.append_assoc]
   rfl
theorem castL_get (u : List Nat) (i : Nat) (h : i < u.length) : rd (castL u) (i : Int) = (u[i] : Int) := by
 rw [rdN _ i (by simpa [castL] using h)]
 simp [castL]
theorem free_l0 (u : List Nat) (nb : Nat) (h2 : 2 ≤ nb) (hnb : nb ≤ 1000) (hu : ∀ x ∈ u, x < nb) (j v : Int) (rs : List S40) (hul : u.length ≤ 1000) : ∀ (m i k : Nat), i + m = u.length → m + nb < k →
  berylref20_free.l0 k (boolsF nb (u.take i)) (i : Int) j v (castL u) rs = some (freeL u 2 (nb - 2)) := by
 intro m
 induction m with
 | zero =>
  intro i k hi hk
  obtain ⟨k, rfl⟩ : ∃ j, k = j + 1 := ⟨k - 1, by omega⟩
  have hc : (castL u).length = u.length := by simp [castL]
  rw [berylref20_free.l0, hc, if_neg (by omega), List.take_of_length_le (by omega)]
  have := free_l1 u nb hnb (nb - 2) 2 k [] (by omega) (by omega) (by simp)
  simpa using this
 | succ m ih =>
  intro i k hi hk
  obtain ⟨k, rfl⟩ : ∃ j, k = j + 1 := ⟨k - 1, by omega⟩
  have hlt : i < u.length := by omega
  have hc : (castL u).length = u.length := by simp [castL]
  have hx := hu u[i] (List.getElem_mem hlt)
  rw [berylref20_free.l0, hc, if_pos (by omega), if_pos (by omega), castL_get u i hlt, if_pos (by omega), boolsF_len, if_pos (by omega), boolsF_set, wSucc i 1000 (by omega) (by omega),
   show u.take i ++ [u[i]] = u.take (i + 1) by rw [List.take_succ_eq_append_getElem hlt]]
  exact ih (i + 1) k (by omega) (by omega)
theorem free_ref (xs : List Int) (hs : sizeOk xs.length = true) (u : List Nat) (hu : ∀ x ∈ u, x < xs.length / 64) (hul : u.length ≤ 1000) (j v : Int) (rs : List S40) (k : Nat) (hk : 2000 ≤ k) :
  berylref20_free.f k xs j v (castL u) rs = some (freeL u 2 (xs.length / 64 - 2)) := by
 have hs' := hs
 unfold sizeOk at hs'
 simp at hs'
 obtain ⟨⟨h1, h2⟩, h3⟩ := hs'
 have hsz : berylref20_blocks.f xs = some ((xs.length / 64 : Nat) : Int) := by
  have := (sizeB xs).resolve_right (by omega)
  rw [hs] at this
  exact this
 unfold berylref20_free.f
 rw [hsz, Option.bind_some, if_pos (by omega), Int.toNat_natCast, if_pos (by omega), ← boolsF_nil]
 have := free_l0 u (xs.length / 64) (by omega) (by omega) hu j v rs hul u.length 0 k (by omega) (by omega)
 simpa using this
theorem putLong_k (b : List Int) (d : Int) (hb : b.length ≤ 140737488355000) : berylref20_putLong.f 9 b d = some (b ++ longL d) := by
 unfold berylref20_putLong.f
 rw [berylref20_putLong.l0, if_pos (by decide +kernel), if_pos (by decide +kernel), if_pos (by omega)]
 rw [berylref20_putLong.l0, if_pos (by decide +kernel), if_pos (by decide +kernel), if_pos (by simp; omega)]
 rw [berylref20_putLong.l0, if_pos (by decide +kernel), if_pos (by decide +kernel), if_pos (by simp; omega)]
 rw [berylref20_putLong.l0, if_pos (by decide +kernel), if_pos (by decide +kernel), if_pos (by simp; omega)]
 rw [berylref20_putLong.l0, if_pos (by decide +kernel), if_pos (by decide +kernel), if_pos (by simp; omega)]
 rw [berylref20_putLong.l0, if_pos (by decide +kernel), if_pos (by decide +kernel), if_pos (by simp; omega)]
 rw [berylref20_putLong.l0, if_pos (by decide +kernel), if_pos (by decide +kernel), if_pos (by simp; omega)]
 rw [berylref20_putLong.l0, if_pos (by decide +kernel), if_pos (by decide +kernel), if_pos (by simp; omega)]
 rw [berylref20_putLong.l0, if_neg (by decide +kernel)]
 simp [longL, wrap64, shr, IntKind.bits]
theorem putLong_at (b : List Int) (d : Int) (hb : b.length ≤ 140737488355000) (k : Nat) (hk : 9 ≤ k) : berylref20_putLong.f k b d = some (b ++ longL d) :=
 mono_to (f := fun k => berylref20_putLong.f k b d) (fun k => berylref20_putLong.mono b d k) (putLong_k b d hb) k hk
theorem putWord_k (b : List Int) (n : Nat) (hn : n ≤ 1000000000000) (hb : b.length ≤ 140737488355000) : berylref20_putWord.f b (n : Int) = some (b ++ wordL n) := by
 unfold berylref20_putWord.f
 rw [Option.bind_some, if_pos (by simp; omega), Int.tdiv_eq_ediv_of_nonneg (by omega), Int.tmod_eq_emod_of_nonneg (by omega)]
 have e : wrap64 ((n : Int) / 256) = (n : Int) / 256 := by unfold wrap64; omega
 rw [e]
 simp [wordL]
theorem written_l0 (l : List S40) (hl : l.length ≤ 9223372036854775807) : ∀ (m i k : Nat) (acc : List Int), i + m = l.length → m + 9 < k → acc.length + (recsB (l.drop i)).length ≤ 70368744177664 → (∀ x ∈ l, x.f1.length ≤ 1000000000000) →
  berylref20_written.l0 k l acc (i : Int) = some (acc ++ recsB (l.drop i)) := by
 intro m
 induction m with
 | zero =>
  intro i k acc hi hk _ _
  obtain ⟨k, rfl⟩ : ∃ j, k = j + 1 := ⟨k - 1, by omega⟩
  rw [berylref20_written.l0, if_neg (by omega), List.drop_of_length_le (by omega)]
  simp [recsB]
 | succ m ih =>
  intro i k acc hi hk hb hx
  obtain ⟨k, rfl⟩ : ∃ j, k = j + 1 := ⟨k - 1, by omega⟩
  have hlt : i < l.length := by omega
  rw [recsB_step l i hlt] at hb ⊢
  rw [List.length_append] at hb
  have hrl := recB_len l[i]
  have e8 : (longL l[i].f0).length = 8 := rfl
  have e2 : (wordL (l[i].f1.length : Int)).length = 2 := rfl
  rw [berylref20_written.l0, if_pos (by omega), if_pos (by omega), rdP l i hlt, putLong_at _ _ (by omega) k (by omega), Option.bind_some, putWord_k _ _ (hx _ (List.getElem_mem hlt)) (by rw [List.length_append, e8]; omega), Option.bind_some,
   if_pos (by rw [List.length_append, List.length_append, e8, e2]; omega), wSucc i _ hlt hl]
  have : acc ++ longL l[i].f0 ++ wordL (l[i].f1.length : Int) ++ l[i].f1 = acc ++ recB l[i] := by simp [recB]
  rw [this, ih (i + 1) k _ (by omega) (by omega) (by rw [List.length_append]; omega) hx, List.append_assoc]
theorem written_k (l : List S40) (hl : l.length ≤ 9223372036854775807) (hb : (recsB l).length ≤ 70368744177664) (hx : ∀ x ∈ l, x.f1.length ≤ 1000000000000) (k : Nat) (hk : l.length + 10 ≤ k) : berylref20_written.f k l = some (recsB l) := by
 unfold berylref20_written.f
 have := written_l0 l hl l.length 0 k [] (by omega) (by omega) (by simpa using hb) hx
 simpa using this
open Go Go.RowKit Go.Deep Go.Proofs.YtcdpkdehogcjnaaGreatW.PrintWords Go.Proofs.YtcdpkdehogcjnaaGreatW.PrintLast Go.Proofs.YtcdpkdehogcjnaaGreatW.PrintMore
def berylref20_fine.f (l0 : List Int) (l1 : List S42) : Option Bool := if sizeOk l0.length = true then some (putsR l0.length l1 == 0) else none
theorem blocks_ok (xs : List Int) (hs : sizeOk xs.length = true) (hx : xs.length ≤ 9223372036854775807) : berylref20_blocks.f xs = some ((xs.length / 64 : Nat) : Int) := by
 have := (sizeB xs).resolve_right (by omega)
 rw [hs] at this
 exact this
theorem puts_vals (n : Nat) : ∀ l : List S42, putsR n l = 0 ∨ putsR n l = 1
 | [] => .inl rfl
 | p :: l => by
  have ih := puts_vals n l
  unfold putsR
  repeat' split
  all_goals first | exact .inr rfl | exact ih
def FiRel (w : World) (N : Nat) (l : List S42) (u5 : Value) (wr : World) : Prop :=
 ∃ i : Nat, u5 = .int .i64 i ∧ i ≤ l.length ∧ Aside0 (putsR N (l.drop i) = putsR N l) ∧ Aside0 (∃ n, wr = w.drewN n)
theorem drawn_more {w wr : World} (h : ∃ n, wr = w.drewN n) (n : Nat) : ∃ m, wr.drewN n = w.drewN m := by
 obtain ⟨k, rfl⟩ := h
 obtain ⟨m, hm⟩ := (Drawn0.step (Drawn0.step (Drawn0.refl w) k) n).1
 exact ⟨m, hm⟩
theorem puts_cons (n : Nat) (l : List S42) (i : Nat) (x : S42) (h : l[i]? = some x) : putsR n (l.drop i) = if x.f0 < 0 then 1 else if x.f0 ≥ ((n / 64 : Nat) : Int) then 1 else if (x.f1.length : Int) < 1 then 1 else if (x.f1.length : Int) > 64 then 1 else putsR n (l.drop (i + 1)) := by
 obtain ⟨hi, rfl⟩ := List.getElem?_eq_some_iff.1 h
 rw [List.drop_eq_getElem_cons hi, putsR]
set_option maxRecDepth 100000 in
theorem fine_any (A0 : Option Addr) (c0 : Nat) (l0 : List Int) (A1 : Option Addr) (c1 : Nat) (l1 : List S42) (w : World) (hr0 : Kd.C (Kd.int .u8) w A0 l0.length l0) (hc0 : l0.length ≤ c0) (hr1 : Kd.C k42 w A1 l1.length l1) (hc1 : l1.length ≤ c1) (hs : sizeOk l0.length = true) :
  Calls Tryz.prog 41 #[.slice A0 l0.length c0, .slice A1 l1.length c1] w fun e w' => e = .returned (.bool (putsR l0.length l1 == 0)) ∧ ∃ n, w' = w.drewN n := by
 have HR := Aside0.mk hr0
 have HL := Aside0.mk hr1
 have hln := hr1.2.1
 have hl9 : l1.length ≤ 9223372036854775807 := by unfold maxLen at hln; omega
 have HB := Aside0.mk (blocks_ok l0 hs (by have := size_pos hs; omega))
 obtain ⟨nb, hnb⟩ : ∃ nb, nb = l0.length / 64 := ⟨_, rfl⟩
 have HNB := Aside0.mk hnb
 obtain ⟨N, hN⟩ : ∃ N, N = l0.length := ⟨_, rfl⟩
 have HNN := Aside0.mk hN
 clear hr0 hr1 hs hnb hN hln
 go_enter Tryz.func41, Tryz.ntmps41
 go_wp2_with fail
 go_loopw [5] (fun u5 wr => FiRel w l0.length l1 u5 wr) (fun u5 _ => l1.length - (intOf u5).toNat)
 case atStart => exact ⟨0, rfl, Nat.zero_le _, ⟨rfl⟩, ⟨⟨0, rfl⟩⟩⟩
 case round =>
  obtain ⟨i, rfl, hi, HE, HW⟩ := hrel
  by_cases hlt : i < l1.length
  rotate_left
  ·have hd : decide (i < l1.length) = false := decide_eq_false hlt
   have he : putsR l0.length l1 = 0 := by
    have h := HE.out
    rw [List.drop_of_length_le (by omega)] at h
    exact h.symm
   have HE2 := Aside0.mk he
   clear he
   go_wp2_with fail
   go_returns
   exact ⟨by rw [HE2.out]; rfl, HW.out⟩
  have hd : decide (i < l1.length) = true := decide_eq_true hlt
  have hL : Kd.C k42 wr A1 l1.length l1 := by
   obtain ⟨n, rfl⟩ := HW.out
   exact Kd.C_drewN HL.out n
  obtain ⟨ad, Ap, cp, x, rfl, hx, p0, p1, hcp, _⟩ := put_at hL i hlt
  have hR : ∀ n, Kd.C (Kd.int .u8) (wr.drewN n) A0 l0.length l0 := by
   obtain ⟨n, rfl⟩ := HW.out
   exact fun m => Kd.C_drewN (Kd.C_drewN HR.out n) m
  have hq : ∀ n, Calls Tryz.prog 40 #[.slice A0 l0.length c0] (wr.drewN n) (fun e w' => e = .returned (.int .i64 (nb : Int)) ∧ ∃ m, w' = (wr.drewN n).drewN m) := fun n => (berylref20_blocks.calls A0 c0 l0 (nb : Int) (wr.drewN n) (hR n) hc0 (by rw [HNB.out]; exact HB.out)).mono fun e w' h => ⟨h.1, h.2.1⟩
  have HQ := Aside0.mk hq
  have hpc := puts_cons l0.length l1 i x hx
  rw [HE.out, ← HNB.out] at hpc
  clear hq hR hL hx
  obtain ⟨b, hb⟩ : ∃ b, b = x.f0 := ⟨_, rfl⟩
  obtain ⟨bl, hbl⟩ : ∃ bl, bl = x.f1.length := ⟨_, rfl⟩
  rw [← hb] at p0 hpc
  rw [← hbl] at p1 hpc hcp
  clear hb hbl
  by_cases t0 : b < 0
  ·rw [if_pos t0] at hpc
   have d0 : decide (b < 0) = true := decide_eq_true t0
   clear t0
   have HPC := Aside0.mk hpc
   clear hpc
   go_wp2_with fail
   go_quiet ((go_at_call 40; exact Calls.quiet_of (HQ.out _)))
   go_wp2_with fail
   go_returns
   exact ⟨by rw [HPC.out]; rfl, drawn_more HW.out _⟩
  rw [if_neg t0] at hpc
  have d0 : decide (b < 0) = false := decide_eq_false t0
  clear t0
  by_cases t1 : b ≥ (nb : Int)
  ·rw [if_pos t1] at hpc
   have d1 : decide ((nb : Int) ≤ b) = true := decide_eq_true t1
   clear t1
   have HPC := Aside0.mk hpc
   clear hpc
   go_wp2_with fail
   go_quiet ((go_at_call 40; exact Calls.quiet_of (HQ.out _)))
   go_wp2_with fail
   go_returns
   exact ⟨by rw [HPC.out]; rfl, drawn_more HW.out _⟩
  rw [if_neg t1] at hpc
  have d1 : decide ((nb : Int) ≤ b) = false := decide_eq_false t1
  clear t1
  by_cases t2 : (bl : Int) < 1
  ·rw [if_pos t2] at hpc
   have d2 : decide ((bl : Int) < 1) = true := decide_eq_true t2
   clear t2
   have HPC := Aside0.mk hpc
   clear hpc
   go_wp2_with fail
   go_quiet ((go_at_call 40; exact Calls.quiet_of (HQ.out _)))
   go_wp2_with fail
   go_returns
   exact ⟨by rw [HPC.out]; rfl, drawn_more HW.out _⟩
  rw [if_neg t2] at hpc
  have d2 : decide ((bl : Int) < 1) = false := decide_eq_false t2
  clear t2
  by_cases t3 : (bl : Int) > 64
  ·rw [if_pos t3] at hpc
   have d3 : decide (64 < (bl : Int)) = true := decide_eq_true t3
   clear t3
   have HPC := Aside0.mk hpc
   clear hpc
   go_wp2_with fail
   go_quiet ((go_at_call 40; exact Calls.quiet_of (HQ.out _)))
   go_wp2_with fail
   go_returns
   exact ⟨by rw [HPC.out]; rfl, drawn_more HW.out _⟩
  rw [if_neg t3] at hpc
  have d3 : decide (64 < (bl : Int)) = false := decide_eq_false t3
  clear t3
  have HPC := Aside0.mk hpc
  clear hpc
  go_wp2_with fail
  go_quiet ((go_at_call 40; exact Calls.quiet_of (HQ.out _)))
  go_wp2_with fail
  go_roundw
  case measure => simp [intOf]; omega
  case rel => exact ⟨i + 1, by go_num, by omega, ⟨HPC.out.symm⟩, ⟨drawn_more HW.out _⟩⟩
theorem berylref20_fine.calls (A0 : Option Addr) (c0 : Nat) (l0 : List Int) (A1 : Option Addr) (c1 : Nat) (l1 : List S42) (r : Bool) (w : World) (hr0 : Kd.C (Kd.int .u8) w A0 l0.length l0) (hc0 : l0.length ≤ c0) (hr1 : Kd.C k42 w A1 l1.length l1) (hc1 : l1.length ≤ c1) (h : berylref20_fine.f l0 l1 = some r) :
  Calls Tryz.prog 41 #[.slice A0 l0.length c0, .slice A1 l1.length c1] w fun e w' => e = .returned (.bool r) ∧ Drawn0 w w' := by
 unfold berylref20_fine.f at h
 by_cases hs : sizeOk l0.length = true
 ·rw [if_pos hs] at h
  cases h
  exact (fine_any A0 c0 l0 A1 c1 l1 w hr0 hc0 hr1 hc1 hs).mono fun e w' h => ⟨h.1, ⟨h.2⟩⟩
 ·rw [if_neg hs] at h
  cases h
end Go.Proofs.YtcdpkdehogcjnaaGreat.Print
