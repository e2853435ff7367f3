/- The reference's small functions as plain ones, and its reading of a head: contracts, whatever the input. -/
import Derived.Test.YtcdpkdehogcjnaaGreatR6
import Derived.Test.YtcdpkdehogcjnaaGreatRF
import Derived.Test.YtcdpkdehogcjnaaGreatRE
import Derived.Test.YtcdpkdehogcjnaaGreatRB
import Derived.BigQuiet
import Derived.Deep.DeepCutAuto
import Derived.Deep.CutBlock
import Derived.Deep.QuietTactic
set_option linter.unusedVariables false
set_option linter.unusedSimpArgs false
namespace Go.Proofs.YtcdpkdehogcjnaaGreat.Print
open Go Go.RowKit Go.Proofs.YtcdpkdehogcjnaaGreatW.PrintWords Go.Proofs.YtcdpkdehogcjnaaGreatW.PrintLast Go.Proofs.YtcdpkdehogcjnaaGreatW.PrintMore
theorem rdN (xs : List Int) (i : Nat) (h : i < xs.length) : rd xs (i : Int) = xs[i] := by
 simp [rd, List.getD_eq_getElem?_getD, List.getElem?_eq_getElem h]
theorem wSucc (i n : Nat) (h : i < n) (hn : n ≤ 9223372036854775807) : wrap64 ((i : Int) + 1) = ((i + 1 : Nat) : Int) := by unfold wrap64; omega
theorem zeros_l0 (xs : List Int) (hl : xs.length ≤ 9223372036854775807) : ∀ (m i k : Nat), i + m = xs.length → m < k → berylref20_zeros.l0 k xs (i : Int) = some (isZ (xs.drop i)) := by
 intro m
 induction m with
 | zero =>
  intro i k hi hk
  obtain ⟨k, rfl⟩ : ∃ j, k = j + 1 := ⟨k - 1, by omega⟩
  rw [berylref20_zeros.l0, if_neg (by omega), List.drop_of_length_le (by omega)]
  rfl
 | succ m ih =>
  intro i k hi hk
  obtain ⟨k, rfl⟩ : ∃ j, k = j + 1 := ⟨k - 1, by omega⟩
  have hlt : i < xs.length := by omega
  rw [berylref20_zeros.l0, if_pos (by omega), if_pos (by omega), rdN xs i hlt, wSucc i _ hlt hl, List.drop_eq_getElem_cons hlt]
  by_cases h : xs[i] = 0
  ·rw [if_pos h, ih (i + 1) k (by omega) (by omega), h]
   simp [isZ]
  ·rw [if_neg h]
   unfold isZ
   rw [List.all_cons, beq_false_of_ne h]
   rfl
theorem zeros_k (xs : List Int) (hl : xs.length ≤ 9223372036854775807) (k : Nat) (hk : xs.length < k) : berylref20_zeros.f k xs = some (isZ xs) := by
 unfold berylref20_zeros.f
 have := zeros_l0 xs hl xs.length 0 k (by omega) (by omega)
 simpa using this
theorem word_k (xs : List Int) (h2 : 2 ≤ xs.length) (hb : IsBytes xs) : berylref20_word.f xs = some (numb (xs.take 2)) := by
 match xs, h2 with
 | a :: b :: l, _ =>
  have ha := hb a (by simp)
  have hb' := hb b (by simp)
  have e : rd (a :: b :: l) 0 = a := rfl
  have e1 : rd (a :: b :: l) 1 = b := rfl
  unfold berylref20_word.f
  rw [if_pos (by simp only [List.length_cons]; omega), if_pos (by simp only [List.length_cons]; omega), e, e1]
  have : numb ((a :: b :: l).take 2) = 256 * a + b := by simp [numb]
  rw [this]
  congr 1
  unfold wrap64
  omega
theorem step_wrap (a x N : Int) (h0 : 0 ≤ a) (hx : 0 ≤ x ∧ x < 256) (hb : 256 * a + x ≤ N) (hN : N < 9223372036854775808) : wrap64 (wrap64 (256 * a) + wrap64 x) = 256 * a + x := by
 unfold wrap64
 omega
theorem mul_up (a b x p : Int) (hx : 0 ≤ x) (hp : 0 ≤ p) (hb : b = 256 * a + x) : a * 256 * p ≤ b * p := Int.mul_le_mul_of_nonneg_right (by omega) hp
theorem pow_pos256 (m : Nat) : (1 : Int) ≤ 256 ^ m := by
 have := pow256 0 m (Nat.zero_le _)
 simpa using this
theorem numb_app_le : ∀ (zs ys : List Int), IsBytes zs → numb ys * 256 ^ zs.length ≤ numb (ys ++ zs)
 | [], ys, _ => by simp
 | z :: zs, ys, hz => by
  have h1 := numb_app_le zs (ys ++ [z]) (fun x hx => hz x (List.mem_cons_of_mem _ hx))
  rw [List.append_assoc] at h1
  simp only [List.singleton_append] at h1
  refine Int.le_trans ?_ h1
  rw [List.length_cons, Int.pow_succ, Int.mul_comm (256 ^ zs.length) 256, ← Int.mul_assoc]
  exact mul_up _ _ z _ (hz z (List.mem_cons_self ..)).1 (Int.le_trans (by decide) (pow_pos256 _)) (numb_snoc _ _)
theorem take_app (xs : List Int) (i m : Nat) : xs.take (i + m) = xs.take i ++ (xs.drop i).take m := List.take_add ..
theorem numb_take_le (xs : List Int) (hb : IsBytes xs) (i m : Nat) (h : i + m ≤ xs.length) : numb (xs.take i) ≤ numb (xs.take (i + m)) := by
 have h1 := numb_app_le ((xs.drop i).take m) (xs.take i) (bytes_take (bytes_drop hb _) _)
 rw [← take_app] at h1
 refine Int.le_trans ?_ h1
 have h0 : (0 : Int) ≤ numb (xs.take i) := (numb_bound _ (xs.take i) rfl (bytes_take hb i)).1
 have h2 := Int.mul_le_mul_of_nonneg_left (pow_pos256 ((xs.drop i).take m).length) h0
 rwa [Int.mul_one] at h2
theorem long_l0 (xs : List Int) (h8 : 8 ≤ xs.length) (hb : IsBytes xs) (hN : Aside0 (numb (xs.take 8) < 9223372036854775808)) : ∀ (m i k : Nat), i + m = 8 → m < k →
  berylref20_long.l0 k xs (numb (xs.take i)) (i : Int) = some (longV xs) := by
 intro m
 induction m with
 | zero =>
  intro i k hi hk
  obtain ⟨k, rfl⟩ : ∃ j, k = j + 1 := ⟨k - 1, by omega⟩
  obtain rfl : i = 8 := by omega
  rw [berylref20_long.l0, if_neg (by decide)]
  unfold longV
  split <;> rfl
 | succ m ih =>
  intro i k hi hk
  obtain ⟨k, rfl⟩ : ∃ j, k = j + 1 := ⟨k - 1, by omega⟩
  have hlt : i < xs.length := by omega
  have c1 : (i : Int) < 8 := by omega
  have c2 : (0 : Int) ≤ i := by omega
  have c3 : (i : Int) < xs.length := by omega
  have c4 : (i + 1) + m ≤ xs.length := by omega
  have c5 : i + 1 + m = 8 := by omega
  have c6 : m < k := by omega
  have e2 : wrap64 ((i : Int) + 1) = ((i + 1 : Nat) : Int) := wSucc i 9 (by omega) (by omega)
  have hx := hb xs[i] (List.getElem_mem hlt)
  have hs : numb (xs.take (i + 1)) = 256 * numb (xs.take i) + xs[i] := by rw [take_get (List.getElem?_eq_getElem hlt), numb_snoc]
  have h0 := (numb_bound _ (xs.take i) rfl (bytes_take hb i)).1
  have hbnd := numb_take_le xs hb (i + 1) m c4
  rw [c5, hs] at hbnd
  rw [berylref20_long.l0, if_pos c1, if_pos c2, if_pos c3, rdN xs i hlt, step_wrap _ _ _ h0 hx hbnd hN.out, ← hs, e2]
  exact ih (i + 1) k c5 c6
theorem top_lim (a b : Int) (ha : a ≤ 64) (hb : b < 256 ^ 7) : a * 72057594037927936 + b < 9223372036854775808 := by
 have e : (256 : Int) ^ 7 = 72057594037927936 := by decide
 rw [e] at hb
 omega
theorem top_far (a b : Int) (ha : a > 64) (hb : 0 ≤ b) : a * 72057594037927936 + b > 4611686018427387904 := by omega
theorem fold256 : ∀ (ys : List Int) (n : Int), ys.foldl (fun n x => 256 * n + x) n = n * 256 ^ ys.length + numb ys
 | [], n => by simp [numb]
 | y :: ys, n => by
  have h1 := fold256 ys (256 * n + y)
  have h2 := fold256 ys (256 * 0 + y)
  unfold numb at h1 h2 ⊢
  rw [List.foldl_cons, List.foldl_cons, h1, h2, List.length_cons, Int.pow_succ]
  generalize (256 : Int) ^ ys.length = p
  simp only [Int.mul_zero, Int.zero_add, Int.add_mul]
  rw [Int.mul_comm p 256, ← Int.mul_assoc, Int.mul_comm n 256, Int.add_assoc]
theorem long_k (xs : List Int) (h8 : 8 ≤ xs.length) (hb : IsBytes xs) (k : Nat) (hk : 8 < k) : berylref20_long.f k xs = some (longV xs) := by
 match xs, h8 with
 | a :: l, h8 =>
  have ha := hb a (by simp)
  have e : rd (a :: l) 0 = a := rfl
  have hl7 : (l.take 7).length = 7 := by simp at h8 ⊢; omega
  have hbl : IsBytes (l.take 7) := bytes_take (fun x hx => hb x (List.mem_cons_of_mem _ hx)) 7
  have hn : numb ((a :: l).take 8) = a * 72057594037927936 + numb (l.take 7) := by
   have h1 := fold256 (l.take 7) (256 * 0 + a)
   show List.foldl _ _ (a :: l.take 7) = _
   rw [List.foldl_cons, h1, hl7, Int.mul_zero, Int.zero_add]
   rfl
  have hb7 := numb_bound 7 (l.take 7) hl7 hbl
  unfold berylref20_long.f
  rw [if_pos (by simp only [List.length_cons]; omega), e]
  by_cases h : a > 64
  ·rw [if_pos h, longV, if_pos (by rw [hn]; exact top_far _ _ h hb7.1)]
  ·rw [if_neg h]
   have hlim : numb ((a :: l).take 8) < 9223372036854775808 := by rw [hn]; exact top_lim _ _ (by omega) hb7.2
   exact long_l0 (a :: l) h8 hb ⟨hlim⟩ 8 0 k (by omega) (by omega)
theorem right_l0 (l : List S40) (hl : l.length ≤ 9223372036854775807) : ∀ (m i k : Nat), i + m = l.length → m < k →
  berylref20_right.l0 k l (i : Int) = some (askedR (if i = 0 then none else (l[i - 1]?).map (·.f0)) (l.drop i) == 0) := by
 intro m
 induction m with
 | zero =>
  intro i k hi hk
  obtain ⟨k, rfl⟩ : ∃ j, k = j + 1 := ⟨k - 1, by omega⟩
  rw [berylref20_right.l0, if_neg (by omega), List.drop_of_length_le (by omega), askedR_nil]
  rfl
 | succ m ih =>
  intro i k hi hk
  obtain ⟨k, rfl⟩ : ∃ j, k = j + 1 := ⟨k - 1, by omega⟩
  have hlt : i < l.length := by omega
  have hnext : berylref20_right.l0 k l ((i + 1 : Nat) : Int) = some (askedR (some l[i].f0) (l.drop (i + 1)) == 0) := by
   rw [ih (i + 1) k (by omega) (by omega), if_neg (by omega), Nat.add_sub_cancel, List.getElem?_eq_getElem hlt]
   rfl
  rw [berylref20_right.l0, if_pos (by omega), if_pos (by omega), rdP l i hlt, wSucc i _ hlt hl, hnext, List.drop_eq_getElem_cons hlt, askedR_cons]
  by_cases h1 : l[i].f0 < 1
  ·rw [if_pos h1, if_pos h1]; rfl
  rw [if_neg h1, if_neg h1]
  by_cases h2 : l[i].f0 > 4611686018427387904
  ·rw [if_pos h2, if_pos h2]; rfl
  rw [if_neg h2, if_neg h2]
  by_cases h3 : (l[i].f1.length : Int) > 4000
  ·rw [if_pos h3, if_pos h3]; rfl
  rw [if_neg h3, if_neg h3]
  by_cases h0 : i = 0
  ·subst h0
   rw [if_neg (by omega), if_pos rfl]
  ·have e3 : wrap64 ((i : Int) - 1) = ((i - 1 : Nat) : Int) := by unfold wrap64; omega
   have hlt1 : i - 1 < l.length := by omega
   rw [if_pos (by omega), e3, if_pos (by omega), if_pos (by omega), rdP l (i - 1) hlt1, if_neg h0, List.getElem?_eq_getElem hlt1]
   simp only [Option.map_some]
   by_cases h4 : l[i].f0 ≤ l[i - 1].f0
   ·rw [if_pos h4, if_pos (by omega)]; rfl
   ·rw [if_neg h4, if_neg (by omega)]
theorem right_k (l : List S40) (hl : l.length ≤ 9223372036854775807) (k : Nat) (hk : l.length < k) : berylref20_right.f k l = some (askedF l == 0) := by
 unfold berylref20_right.f askedF
 have := right_l0 l hl l.length 0 k (by omega) (by omega)
 simpa using this
/-- what the reference reads of bytes -/
def readL (xs : List Int) : List S40 × Bool :=
 match parseF xs.length xs with
 | none => ([], false)
 | some l => (l, askedF l == 0)
theorem read_l0 : ∀ (f : Nat) (xs : List Int) (acc : List S40) (k : Nat), IsBytes xs → xs.length ≤ f → xs.length + acc.length ≤ 2000000 → xs.length + acc.length + 12 ≤ k →
  berylref20_read.l0 k xs acc = some (match parseF f xs with | none => ([], false) | some l => (acc ++ l, askedF (acc ++ l) == 0)) := by
 intro f
 induction f with
 | zero =>
  intro xs acc k hb hf hm hk
  obtain ⟨k, rfl⟩ : ∃ j, k = j + 1 := ⟨k - 1, by omega⟩
  rw [berylref20_read.l0, if_neg (by omega), right_k acc (by omega) k (by omega), Option.bind_some, parseF, if_pos (by omega)]
  simp
 | succ f ih =>
  intro xs acc k hb hf hm hk
  obtain ⟨k, rfl⟩ : ∃ j, k = j + 1 := ⟨k - 1, by omega⟩
  rw [berylref20_read.l0, parseF]
  by_cases h0 : xs.length = 0
  ·rw [if_neg (by omega), right_k acc (by omega) k (by omega), Option.bind_some, if_pos h0]
   simp
  rw [if_pos (by omega), if_neg h0]
  by_cases h10 : xs.length < 10
  ·rw [if_pos (by omega), if_pos h10]
  obtain ⟨sz, hsz, hszb⟩ := recS_nat xs hb
  have hw : berylref20_word.f (xs.drop 8) = some (sz : Int) := by rw [word_k _ (by simp; omega) (bytes_drop hb 8)]; exact congrArg some hsz
  have e1 : wrap64 ((xs.length : Int) - 10) = ((xs.length - 10 : Nat) : Int) := by unfold wrap64; omega
  have e2 : wrap64 (10 + (sz : Int)) = ((10 + sz : Nat) : Int) := by unfold wrap64; omega
  rw [if_neg (by omega), if_neg h10, if_pos (by omega), hw, Option.bind_some, e1, hsz, Int.toNat_natCast]
  by_cases hs : sz + 10 > xs.length
  ·rw [if_pos (by omega), if_pos hs]
  have hlen : ((xs.take (10 + sz)).drop 10).length = sz := by simp; omega
  have hdt : (xs.take (10 + sz)).drop 10 = (xs.drop 10).take sz := by rw [List.drop_take]; simp
  rw [if_neg (by omega), if_neg hs, long_k xs (by omega) hb k (by omega), Option.bind_some, Option.bind_some, e2, if_pos (by omega), if_pos (by omega), Option.bind_some, Int.toNat_natCast, if_pos (by rw [hlen]; simp; omega), if_pos (by omega), if_pos (by omega)]
  have hr := ih (xs.drop (10 + sz)) (acc ++ [(⟨longV xs, ([] : List Int) ++ (xs.take (10 + sz)).drop 10⟩ : S40)]) k (bytes_drop hb _) (by simp; omega) (by simp; omega) (by simp; omega)
  rw [hr, hdt]
  cases parseF f (xs.drop (10 + sz)) with
  | none => rfl
  | some l => simp [List.append_assoc]
theorem read_k (xs : List Int) (hb : IsBytes xs) (hm : xs.length ≤ 2000000) (k : Nat) (hk : xs.length + 12 ≤ k) : berylref20_read.f k xs = some (readL xs) := by
 unfold berylref20_read.f readL
 rw [read_l0 xs.length xs [] k hb (Nat.le_refl _) (by simp; omega) (by simp; omega)]
 cases parseF xs.length xs <;> simp
theorem recs_read (xs : List Int) (hb : IsBytes xs) : recsF xs.length 0 xs = if (readL xs).2 then some (readL xs).1 else none := by
 rw [recs_parse _ _ _ hb]
 unfold readL
 cases parseF xs.length xs with
 | none => rfl
 | some l =>
  rw [Option.bind_some, asked_zero]
  unfold askedF
  simp only [beq_iff_eq]
theorem rblock_any (A : Option Addr) (n c i : Nat) (w : World) (hn : n ≤ c) (hc : n ≤ maxLen) (hi : (i + 1) * 64 ≤ n) :
  Calls Tryz.prog 69 #[.slice A n c, .int .i64 i] w fun e w' => e = .returned (.slice (A.map (·.add (i * 64))) 64 (c - i * 64)) ∧ w = w' := by
 unfold maxLen at hc
 go_enter Tryz.func69, Tryz.ntmps69
 go_wp2
 go_returns
 refine ⟨?_, rfl⟩
 have e : (i + 1) * 64 - i * 64 = 64 := by omega
 simp [e]
theorem rblocks_nb (A : Option Addr) (c : Nat) (xs : List Int) (nb : Nat) (w : World) (hr : Kd.C (Kd.int .u8) w A xs.length xs) (hc : xs.length ≤ c) (hn : xs.length = nb * 64) (h8 : 8 ≤ nb) (h256 : nb ≤ 256) :
  Calls Tryz.prog 40 #[.slice A xs.length c] w fun e w' => e = .returned (.int .i64 nb) ∧ ∃ m, w' = w.drewN m := by
 have e1 : wrap64 ((xs.length : Int) / 64) = (nb : Int) := by unfold wrap64; omega
 have h : berylref20_blocks.f xs = some (nb : Int) := by
  unfold berylref20_blocks.f
  rw [if_pos (by omega), e1, if_neg (by omega), if_neg (by omega)]
 exact (berylref20_blocks.calls A c xs nb w hr hc h).mono fun _ _ h => ⟨h.1, h.2.out⟩
theorem rroom_nb (nb : Nat) (w : World) (h8 : 8 ≤ nb) (h256 : nb ≤ 256) :
  Calls Tryz.prog 51 #[.int .i64 nb] w fun e w' => e = .returned (.int .i64 (((nb - 2) / 2 : Nat) : Int)) ∧ ∃ m, w' = w.drewN m := by
 have h : berylref20_room.f (nb : Int) = some (((nb - 2) / 2 : Nat) : Int) := by
  unfold berylref20_room.f
  have e0 : wrap64 ((nb : Int) - 2) = ((nb - 2 : Nat) : Int) := by unfold wrap64; omega
  rw [e0, Int.tdiv_eq_ediv_of_nonneg (by omega)]
  congr 1
  unfold wrap64
  omega
 exact (berylref20_room.calls nb _ w h).mono fun _ _ h => ⟨h.1, h.2.out⟩
theorem rzeros_n (A : Option Addr) (n c : Nat) (xs : List Int) (w : World) (hn : xs.length = n) (hr : Kd.C (Kd.int .u8) w A n xs) (hc : n ≤ c) :
  Calls Tryz.prog 70 #[.slice A n c] w fun e w' => e = .returned (.bool (isZ xs)) ∧ ∃ m, w' = w.drewN m := by
 subst hn
 have hm := Kd.C_max hr
 exact (berylref20_zeros.calls (xs.length + 1) A c xs _ w hr hc (zeros_k xs (by omega) _ (by omega))).mono fun _ _ h => ⟨h.1, h.2.out⟩
theorem rword_n (k : Nat) (A : Option Addr) (n c : Nat) (xs : List Int) (w : World) (hk : numb (xs.take 2) = k) (hn : xs.length = n) (hr : Kd.C (Kd.int .u8) w A n xs) (hc : n ≤ c) (h2 : 2 ≤ n) (hb : IsBytes xs) :
  Calls Tryz.prog 72 #[.slice A n c] w fun e w' => e = .returned (.int .i64 k) ∧ ∃ m, w' = w.drewN m := by
 subst hn
 exact (berylref20_word.calls A c xs k w hr hc (by rw [word_k xs h2 hb, hk])).mono fun _ _ h => ⟨h.1, h.2.out⟩
theorem rlong_n (A : Option Addr) (n c : Nat) (xs : List Int) (w : World) (hn : xs.length = n) (hr : Kd.C (Kd.int .u8) w A n xs) (hc : n ≤ c) (h8 : 8 ≤ n) (hb : IsBytes xs) :
  Calls Tryz.prog 71 #[.slice A n c] w fun e w' => e = .returned (.int .i64 (longV xs)) ∧ ∃ m, w' = w.drewN m := by
 subst hn
 exact (berylref20_long.calls 9 A c xs _ w hr hc (long_k xs h8 hb 9 (by omega))).mono fun _ _ h => ⟨h.1, h.2.out⟩
theorem rread_n (A : Option Addr) (n c : Nat) (xs : List Int) (w : World) (hn : xs.length = n) (hv : Kd.V (Kd.int .u8) 5 w w.heap.size (fun _ => True) (.slice A n c) xs) (hb : IsBytes xs) (hm : xs.length ≤ 2000000) :
  Calls Tryz.prog 73 #[.slice A n c] w fun e w' => ∃ v0_ : Value, e = .returned (.tuple #[v0_, .bool (readL xs).2]) ∧ Kd.S k40 40 w' w.heap.size (fun k_ => (w.heap.size ≤ k_)) v0_ (readL xs).1 ∧ Below w.heap.size w w' := by
 subst hn
 exact berylref20_read.calls (xs.length + 12) (fun _ => True) A c xs (readL xs).1 (readL xs).2 w hv (read_k xs hb hm _ (Nat.le_refl _))
theorem str_same (a b : List Int) (ha : IsBytes a) (hb : IsBytes b) : ((strOfNums a).toList == (strOfNums b).toList) = decide (a = b) := by
 rw [ByteArray.toList_eq, ByteArray.toList_eq, strOfNums_data, strOfNums_data]
 by_cases h : a = b
 ·subst h; simp
 ·have h2 : ¬ (a.map fun n => UInt8.ofNat n.toNat) = (b.map fun n => UInt8.ofNat n.toNat) := fun e => h (by
   have : ∀ (a b : List Int), IsBytes a → IsBytes b → (a.map fun n => UInt8.ofNat n.toNat) = (b.map fun n => UInt8.ofNat n.toNat) → a = b := by
    intro a
    induction a with
    | nil => intro b _ _ e; cases b with | nil => rfl | cons y b => simp at e
    | cons x a ih =>
     intro b ha hb e
     cases b with
     | nil => simp at e
     | cons y b =>
      simp only [List.map_cons, List.cons.injEq] at e
      obtain ⟨e1, e2⟩ := e
      have hx := ha x (by simp)
      have hy := hb y (by simp)
      have e3 := congrArg UInt8.toNat e1
      simp only [UInt8.toNat_ofNat'] at e3
      rw [ih b (fun z hz => ha z (List.mem_cons_of_mem _ hz)) (fun z hz => hb z (List.mem_cons_of_mem _ hz)) e2]
      congr 1
      omega
   exact this a b ha hb e)
  rw [decide_eq_false h]
  simpa using h2
/-- what the reference's head tells -/
def refHead (xs : List Int) (nb i : Nat) : Int × Int × List Int × List S40 × Bool :=
 let h := blkL xs i
 let many := (numb (h.take 2)).toNat
 let size := (numb ((h.drop 2).take 2)).toNat
 let at0 := (numb ((h.drop 4).take 2)).toNat
 let ver := (numb ((h.drop 24).take 8)).toNat
 if HeadOk h nb many size ver then
  match chainF xs nb many at0 [] [] with
  | none => (0, 0, [], [], false)
  | some (used, all) => if isZ (all.drop size) = true then (i, ver, used.map (fun (a : Nat) => (a : Int)), (readL (all.take size)).1, (readL (all.take size)).2) else (0, 0, [], [], false)
 else (0, 0, [], [], false)
def HdPost (w : World) (r : Int × Int × List Int × List S40 × Bool) (e : Ending) (w' : World) : Prop :=
 ∃ v2 v3 : Value, e = .returned (.tuple #[.agg #[.int .i64 r.1, .int .i64 r.2.1, v2, v3], .bool r.2.2.2.2]) ∧ Kd.R (Kd.int .i64) 3 w' w.heap.size (fun _ => True) v2 r.2.2.1 ∧ Kd.S k40 40 w' w.heap.size (fun _ => True) v3 r.2.2.2.1 ∧ Below w.heap.size w w'
theorem four_cells {w : World} {g : Nat} {t : TypeId} {a b c d : Value} (h : w.heap[g]? = some (.cells #[a, b, c, d] t (0, 0))) :
  w.cell? ⟨g, 0, none⟩ = some a ∧ w.cell? ⟨g, 1, none⟩ = some b ∧ w.cell? ⟨g, 2, none⟩ = some c ∧ w.cell? ⟨g, 3, none⟩ = some d ∧ w.frozen? ⟨g, 0, none⟩ = false ∧ w.frozen? ⟨g, 1, none⟩ = false ∧ w.frozen? ⟨g, 2, none⟩ = false ∧ w.frozen? ⟨g, 3, none⟩ = false := by
 have h0 := blk_cell h 0
 have h1 := blk_cell h 1
 have h2 := blk_cell h 2
 have h3 := blk_cell h 3
 simp at h0 h1 h2 h3
 exact ⟨h0, h1, h2, h3, blk_frozen h 0, blk_frozen h 1, blk_frozen h 2, blk_frozen h 3⟩
def Z4 : Array Value := #[.int .i64 0, .int .i64 0, .slice none 0 0, .slice none 0 0]
theorem refHead_no {xs hb : List Int} {nb i : Nat} (hh : hb = blkL xs i) (h : ¬ HeadOk hb nb (numb (hb.take 2)).toNat (numb ((hb.drop 2).take 2)).toNat (numb ((hb.drop 24).take 8)).toNat) : refHead xs nb i = (0, 0, [], [], false) := by
 subst hh
 simp only [refHead]
 rw [if_neg h]
theorem below_sets {w W : World} {rB : Nat} (h : Below w.heap.size w W) (hr : rB = w.heap.size) (a b c d : Value) :
  Below w.heap.size w ((((W.setCell ⟨rB, 0, none⟩ a).setCell ⟨rB, 1, none⟩ b).setCell ⟨rB, 2, none⟩ c).setCell ⟨rB, 3, none⟩ d) :=
 below_set (below_set (below_set (below_set h (by omega)) (by omega)) (by omega)) (by omega)
theorem zero_post {w W : World} {rB : Nat} {r : Int × Int × List Int × List S40 × Bool} (hr : r = (0, 0, [], [], false)) (hB : rB = w.heap.size) (h : Below w.heap.size w W) (n : Nat) :
  HdPost w r (.returned (.tuple #[.agg Z4, .bool false])) (((((W.drewN n).setCell ⟨rB, 0, none⟩ (.int .i64 0)).setCell ⟨rB, 1, none⟩ (.int .i64 0)).setCell ⟨rB, 2, none⟩ (.slice none 0 0)).setCell ⟨rB, 3, none⟩ (.slice none 0 0)) := by
 subst hr
 exact ⟨_, _, rfl, Kd.R_nil _ _ _ _ _, Kd.S_nil _ _ _ _ _, below_sets (pw_below_drewN h n) hB _ _ _ _⟩
theorem zero_post0 {w W : World} {rB : Nat} {r : Int × Int × List Int × List S40 × Bool} (hr : r = (0, 0, [], [], false)) (hB : rB = w.heap.size) (h : Below w.heap.size w W) :
  HdPost w r (.returned (.tuple #[.agg Z4, .bool false])) ((((W.setCell ⟨rB, 0, none⟩ (.int .i64 0)).setCell ⟨rB, 1, none⟩ (.int .i64 0)).setCell ⟨rB, 2, none⟩ (.slice none 0 0)).setCell ⟨rB, 3, none⟩ (.slice none 0 0)) := by
 subst hr
 exact ⟨_, _, rfl, Kd.R_nil _ _ _ _ _, Kd.S_nil _ _ _ _ _, below_sets h hB _ _ _ _⟩
def boolsF (nb : Nat) (used : List Nat) : List Bool := (List.range nb).map fun j => used.contains j
theorem boolsF_len (nb : Nat) (used : List Nat) : (boolsF nb used).length = nb := by simp [boolsF]
theorem boolsF_nil (nb : Nat) : boolsF nb [] = List.replicate nb false := by
 apply List.ext_getElem <;> simp [boolsF]
theorem boolsF_get (nb : Nat) (used : List Nat) (a : Nat) (h : a < nb) : rdOf false (boolsF nb used) (a : Int) = used.contains a := by
 simp [rdOf, boolsF, List.getD_eq_getElem?_getD, h]
theorem boolsF_set (nb : Nat) (used : List Nat) (a : Nat) : (boolsF nb used).set (a : Int).toNat true = boolsF nb (used ++ [a]) := by
 apply List.ext_getElem?
 intro j
 rw [Int.toNat_natCast, List.getElem?_set]
 unfold boolsF
 by_cases h : a = j
 ·subst h
  by_cases hj : a < nb
  ·simp [hj]
  ·simp [hj]
 ·rw [if_neg h]
  simp only [List.getElem?_map]
  by_cases hj : j < nb
  ·simp [hj, Ne.symm h]
  ·simp [hj]
/-- the loop over the chain -/
def HdRel (w : World) (rB sB uB cu : Nat) (xs : List Int) (nb i ver many at0 : Nat) (v a k : Value) (wr : World) : Prop :=
 ∃ (k' a' : Nat) (used : List Nat) (all : List Int) (uv : Value), k = .int .i64 k' ∧ a = .int .i64 a' ∧ k' ≤ many ∧ a' < 65536 ∧ used.length = k' ∧ all.length = 62 * k' ∧
  Aside0 (chainF xs nb (many - k') a' used all = chainF xs nb many at0 [] []) ∧ Aside0 (IsBytes all) ∧
  Aside0 (Kd.R (Kd.int .u8) 5 wr w.heap.size (fun _ => True) v all) ∧ Aside0 (Kd.R Kd.bool 4 wr w.heap.size (fun _ => True) (.slice (some ⟨uB, 0, none⟩) nb cu) (boolsF nb used)) ∧
  Aside0 (Kd.R (Kd.int .i64) 3 wr w.heap.size (fun _ => True) uv (used.map (fun (a : Nat) => (a : Int)))) ∧
  Aside0 (wr.heap[sB]? = some (.cells #[.int .i64 i, .int .i64 ver, uv, .slice none 0 0] 54 (0, 0))) ∧ Aside0 (wr.heap[rB]? = some (.cells Z4 54 (0, 0))) ∧ Aside0 (Below w.heap.size w wr)
set_option maxHeartbeats 40000000 in
set_option maxRecDepth 100000 in
theorem rhead_any (ad : Addr) (n c i : Nat) (xs : List Int) (w : World) (hr : Kd.C (Kd.int .u8) w (some ad) n xs) (hn : n ≤ c) (hbt : IsBytes xs) (hi : (i + 1) * 64 ≤ n) (nb : Nat) (hnb : n = nb * 64) (h8 : 8 ≤ nb) (h256 : nb ≤ 256) :
  Calls Tryz.prog 49 #[.slice (some ad) n c, .int .i64 i] w fun e w' => HdPost w (refHead xs nb i) e w' := by
 subst hnb
 have hc : nb * 64 ≤ maxLen := by unfold maxLen; omega
 have hl : xs.length = nb * 64 := Kd.C_len hr
 obtain ⟨a0, ha0⟩ : ∃ a0, a0 = ad.add (i * 64) := ⟨_, rfl⟩
 obtain ⟨hb, hhb⟩ : ∃ hb, hb = blkL xs i := ⟨_, rfl⟩
 have hblk : Kd.C (Kd.int .u8) w (some a0) 64 hb := by
  have h1 := C_takeN (C_dropN hr (i * 64) (by omega) hn) 64 (by omega)
  rw [if_neg (by omega), Option.map_some, ← ha0] at h1
  rw [hhb]
  exact h1
 have HBL := Aside0.mk hblk
 have HR := Aside0.mk hr
 have HL := Aside0.mk hhb
 have HBT := Aside0.mk hbt
 have H64 : Aside0 (hb.length = 64) := ⟨C_len hblk⟩
 have HBY : Aside0 (IsBytes hb) := ⟨by rw [hhb]; exact bytes_take (bytes_drop hbt _) _⟩
 have HLX := Aside0.mk hl
 clear hblk hr hhb hbt hl
 go_enter Tryz.func49, Tryz.ntmps49
 go_wp2_with fail
 refine (rblock_any _ _ _ _ _ hn hc hi).mono ?_
 rintro e w1 ⟨rfl, rfl⟩
 simp only [Option.map_some, ← ha0]
 go_upto_region 2 with fail
 clear ha0
 obtain ⟨rB, hrB⟩ : ∃ rB, rB = w.heap.size := ⟨_, rfl⟩
 rw [← hrB]
 obtain ⟨w1, hw1⟩ : ∃ w1, w1 = w.alloc (Obj.cells #[Value.int IntKind.i64 0, Value.int IntKind.i64 0, Value.slice none 0 0, Value.slice none 0 0] 54) := ⟨_, rfl⟩
 rw [← hw1]
 have HB1 : Aside0 (Below w.heap.size w w1) := ⟨by rw [hw1]; exact below_alloc (Below.refl _ _) _⟩
 have HQ1 : Aside0 (w1.heap[rB]? = some (.cells #[.int .i64 0, .int .i64 0, .slice none 0 0, .slice none 0 0] 54 (0, 0))) := ⟨by rw [hw1, hrB]; exact heap_alloc_new _ _⟩
 have HRB := Aside0.mk hrB
 clear hw1 hrB
 obtain ⟨c1, hc1⟩ : ∃ c1, c1 = c - i * 64 := ⟨_, rfl⟩
 have h64 : 64 ≤ c1 := by omega
 rw [← hc1]
 clear hc1
 have hcl := Kd.C_below HBL.out HB1.out
 have hA := C_takeN hcl 32 (by omega)
 have hB : Kd.C (Kd.int .u8) w1 (some ⟨a0.block, a0.off + 32, none⟩) 32 (hb.drop 32) := by
  have := sub_C hcl 32 32 (by omega) (by omega) (by omega)
  rwa [List.take_of_length_le (by rw [List.length_drop, H64.out]; omega)] at this
 have hs1 := Kd.C_string (P := Tryz.prog) (c := c1) Tryz.underlying22 Tryz.underlying5 Tryz.underlying9 hA
 have hs1d := fun n_ : Nat => Kd.C_string (P := Tryz.prog) (c := c1) Tryz.underlying22 Tryz.underlying5 Tryz.underlying9 (Kd.C_drewN hA n_)
 have hs2 := Kd.C_string (P := Tryz.prog) (c := c1 - 32) Tryz.underlying22 Tryz.underlying5 Tryz.underlying9 hB
 have hs2d := fun n_ : Nat => Kd.C_string (P := Tryz.prog) (c := c1 - 32) Tryz.underlying22 Tryz.underlying5 Tryz.underlying9 (Kd.C_drewN hB n_)
 have hstr := str_same (hb.take 32) (hb.drop 32) (bytes_take HBY.out _) (bytes_drop HBY.out _)
 clear hA hB
 have HCL := Aside0.mk hcl
 clear hcl
 by_cases hh : hb.take 32 = hb.drop 32
 rotate_left
 ·
  --[
  have HH := Aside0.mk hh
  rw [decide_eq_false hh] at hstr
  have hstr2 : ((strOfNums (hb.take 32)).toList != (strOfNums (hb.drop 32)).toList) = true := by rw [bne, hstr]; rfl
  clear hh
  obtain ⟨k0, k1, k2, k3, f0, f1, f2, f3⟩ := four_cells HQ1.out
  go_quiet (fail)
  go_wp2_with fail
  refine bodyPost_ret (results_ct rfl _ _ rB 54 Z4 (0, 0) _ rfl (four_set HQ1.out _ _ _ _) Tryz.underlying54 rfl (by kernel_rfl)) rfl ?_
  exact zero_post (refHead_no HL.out (fun h => HH.out h.1)) HRB.out HB1.out nq
  --]
 have HH := Aside0.mk hh
 rw [decide_eq_true hh] at hstr
 have hstr2 : ((strOfNums (hb.take 32)).toList != (strOfNums (hb.drop 32)).toList) = false := by rw [bne, hstr]; rfl
 clear hh
 have hsubs := fun (W : World) (h : Below w.heap.size w W) (k m : Nat) (h1 : 0 < k) (h2 : k + m ≤ 64) (h3 : 0 < m) => sub_C (Kd.C_below HBL.out h) k m h1 h2 h3
 have HSUB := Aside0.mk hsubs
 clear hsubs
 by_cases hz : isZ ((hb.drop 6).take 18) = true
 rotate_left
 ·
  --[
  have HZ := Aside0.mk hz
  have hz' : isZ ((hb.drop 6).take 18) = false := by simpa using hz
  obtain ⟨k0, k1, k2, k3, f0, f1, f2, f3⟩ := four_cells HQ1.out
  have hzc := fun (n : Nat) => rzeros_n (some ⟨a0.block, a0.off + 6, none⟩) 18 (c1 - 6) ((hb.drop 6).take 18) (w1.drewN n) (by simp [H64.out]) (HSUB.out (w1.drewN n) (pw_below_drewN HB1.out n) 6 18 (by omega) (by omega) (by omega)) (by omega)
  rw [hz'] at hzc
  have HZC := Aside0.mk hzc
  clear hz hzc hz'
  go_quiet ((go_at_call 70; exact Calls.quiet_of (HZC.out _)))
  go_wp2_with fail
  refine bodyPost_ret (results_ct rfl _ _ rB 54 Z4 (0, 0) _ rfl (four_set HQ1.out _ _ _ _) Tryz.underlying54 rfl (by kernel_rfl)) rfl ?_
  exact zero_post (refHead_no HL.out (fun h => HZ.out h.2.1)) HRB.out HB1.out nq
  --]
 have HZ := Aside0.mk hz
 have hzc := fun (n : Nat) => rzeros_n (some ⟨a0.block, a0.off + 6, none⟩) 18 (c1 - 6) ((hb.drop 6).take 18) (w1.drewN n) (by simp [H64.out]) (HSUB.out (w1.drewN n) (pw_below_drewN HB1.out n) 6 18 (by omega) (by omega) (by omega)) (by omega)
 rw [hz] at hzc
 have HZC := Aside0.mk hzc
 clear hz hzc
 go_quiet ((go_at_call 70; exact Calls.quiet_of (HZC.out _)))
 clear HZC hs1 hs1d hs2 hs2d hstr hstr2
 obtain ⟨w2, hw2⟩ : ∃ w2, w2 = w1.drewN nq := ⟨_, rfl⟩
 rw [← hw2]
 have HB2 : Aside0 (Below w.heap.size w w2) := ⟨by rw [hw2]; exact pw_below_drewN HB1.out nq⟩
 have HQ2 : Aside0 (w2.heap[rB]? = some (.cells Z4 54 (0, 0))) := ⟨by rw [hw2]; exact HQ1.out⟩
 clear hw2 HB1 HQ1 HCL
 go_wp2_with fail
 refine (rlong_n (some ⟨a0.block, a0.off + 24, none⟩) 8 (c1 - 24) ((hb.drop 24).take 8) w2 (by simp [H64.out]) (HSUB.out w2 HB2.out 24 8 (by omega) (by omega) (by omega)) (by omega) (by omega) (bytes_take (bytes_drop HBY.out _) _)).mono ?_
 rintro e w3' ⟨rfl, n3, rfl⟩
 obtain ⟨vv, hvv⟩ : ∃ vv, vv = longV ((hb.drop 24).take 8) := ⟨_, rfl⟩
 rw [← hvv]
 obtain ⟨w3, hw3⟩ : ∃ w3, w3 = w2.drewN n3 := ⟨_, rfl⟩
 rw [← hw3]
 have HB3 : Aside0 (Below w.heap.size w w3) := ⟨by rw [hw3]; exact pw_below_drewN HB2.out n3⟩
 have HQ3 : Aside0 (w3.heap[rB]? = some (.cells Z4 54 (0, 0))) := ⟨by rw [hw3]; exact HQ2.out⟩
 have HVV := Aside0.mk hvv
 clear hw3 HB2 HQ2 hvv
 obtain ⟨k0, k1, k2, k3, f0, f1, f2, f3⟩ := four_cells (heap_alloc_new w3 (.cells #[.int .i64 0, .int .i64 0, .slice none 0 0, .slice none 0 0] 54))
 go_upto_region 5 with fail
 clear k0 k1 k2 k3 f0 f1 f2 f3
 obtain ⟨sB, hsB⟩ : ∃ sB, sB = w3.heap.size := ⟨_, rfl⟩
 rw [← hsB]
 obtain ⟨w4, hw4⟩ : ∃ w4, w4 = w3.alloc (Obj.cells #[.int .i64 i, .int .i64 vv, .slice none 0 0, .slice none 0 0] 54) := ⟨_, rfl⟩
 rw [← hw4]
 have hrl := blk_lt HQ3.out
 have HNE : Aside0 (rB < sB ∧ w.heap.size < sB) := ⟨by have := HRB.out; omega⟩
 have HS4 : Aside0 (w4.heap[sB]? = some (.cells #[.int .i64 i, .int .i64 vv, .slice none 0 0, .slice none 0 0] 54 (0, 0))) := ⟨by rw [hw4, hsB]; exact heap_alloc_new _ _⟩
 have HQ4 : Aside0 (w4.heap[rB]? = some (.cells Z4 54 (0, 0))) := ⟨by rw [hw4, Below.heap_alloc _ _ _ hrl]; exact HQ3.out⟩
 have HB4 : Aside0 (Below w.heap.size w w4) := ⟨by rw [hw4]; exact below_alloc HB3.out _⟩
 clear hw4 hsB hrl HB3 HQ3
 obtain ⟨many, hmany, bmany⟩ := numb_nat (hb.take 2) (bytes_take HBY.out _) 2 (by simp; omega)
 obtain ⟨size, hsize, bsize⟩ := numb_nat ((hb.drop 2).take 2) (bytes_take (bytes_drop HBY.out _) _) 2 (by simp; omega)
 obtain ⟨at0, hat, bat⟩ := numb_nat ((hb.drop 4).take 2) (bytes_take (bytes_drop HBY.out _) _) 2 (by simp; omega)
 obtain ⟨ver, hver, bver⟩ := numb_nat ((hb.drop 24).take 8) (bytes_take (bytes_drop HBY.out _) _) 8 (by simp; omega)
 replace bmany : many < 65536 := bmany
 replace bsize : size < 65536 := bsize
 replace bat : at0 < 65536 := bat
 have HN : Aside0 (numb (hb.take 2) = many ∧ numb ((hb.drop 2).take 2) = size ∧ numb ((hb.drop 4).take 2) = at0 ∧ numb ((hb.drop 24).take 8) = ver) := ⟨⟨hmany, hsize, hat, hver⟩⟩
 have HVR : Aside0 (vv = if (ver : Int) > 4611686018427387904 then -1 else (ver : Int)) := ⟨by
  rw [HVV.out]
  unfold longV
  rw [List.take_take, Nat.min_self, hver]⟩
 clear hmany hsize hat hver bver
 go_wp2_with fail
 refine (rword_n many (some a0) 64 c1 hb w4 HN.out.1 H64.out (Kd.C_below HBL.out HB4.out) h64 (by omega) HBY.out).mono ?_
 rintro e w5' ⟨rfl, n5, rfl⟩
 obtain ⟨w5, hw5⟩ : ∃ w5, w5 = w4.drewN n5 := ⟨_, rfl⟩
 rw [← hw5]
 have HB5 : Aside0 (Below w.heap.size w w5) := ⟨by rw [hw5]; exact pw_below_drewN HB4.out n5⟩
 have HQ5 : Aside0 (w5.heap[rB]? = some (.cells Z4 54 (0, 0))) := ⟨by rw [hw5]; exact HQ4.out⟩
 have HS5 : Aside0 (w5.heap[sB]? = some (.cells #[.int .i64 i, .int .i64 vv, .slice none 0 0, .slice none 0 0] 54 (0, 0))) := ⟨by rw [hw5]; exact HS4.out⟩
 clear hw5 HB4 HQ4 HS4
 have htail := fun (W : World) (h : Below w.heap.size w W) (k : Nat) (h1 : 0 < k) (h2 : k < 64) => (show Kd.C (Kd.int .u8) W (some ⟨a0.block, a0.off + k, none⟩) (64 - k) (hb.drop k) by
  have := HSUB.out W h k (64 - k) h1 (by omega) (by omega)
  rwa [List.take_of_length_le (by rw [List.length_drop, H64.out]; omega)] at this)
 have HTL := Aside0.mk htail
 clear htail
 go_wp2_with fail
 refine (rword_n size (some ⟨a0.block, a0.off + 2, none⟩) 62 (c1 - 2) (hb.drop 2) w5 HN.out.2.1 (by rw [List.length_drop, H64.out]) (HTL.out w5 HB5.out 2 (by omega) (by omega)) (by omega) (by omega) (bytes_drop HBY.out _)).mono ?_
 rintro e w6' ⟨rfl, n6, rfl⟩
 obtain ⟨w6, hw6⟩ : ∃ w6, w6 = w5.drewN n6 := ⟨_, rfl⟩
 rw [← hw6]
 have HB6 : Aside0 (Below w.heap.size w w6) := ⟨by rw [hw6]; exact pw_below_drewN HB5.out n6⟩
 have HQ6 : Aside0 (w6.heap[rB]? = some (.cells Z4 54 (0, 0))) := ⟨by rw [hw6]; exact HQ5.out⟩
 have HS6 : Aside0 (w6.heap[sB]? = some (.cells #[.int .i64 i, .int .i64 vv, .slice none 0 0, .slice none 0 0] 54 (0, 0))) := ⟨by rw [hw6]; exact HS5.out⟩
 clear hw6 HB5 HQ5 HS5
 go_upto_region 7 with fail
 obtain ⟨k0, k1, k2, k3, f0, f1, f2, f3⟩ := four_cells HQ6.out
 obtain ⟨s0, s1, s2, s3, g0, g1, g2, g3⟩ := four_cells HS6.out
 have hk1 := fun (W : World) (h : Below w.heap.size w W) => rblocks_nb (some ad) c xs nb W (by rw [HLX.out]; exact Kd.C_below HR.out h) (by rw [HLX.out]; exact hn) HLX.out h8 h256
 rw [HLX.out] at hk1
 have hk2 := fun (W : World) => rroom_nb nb W h8 h256
 obtain ⟨rm, hrm⟩ : ∃ rm, rm = (nb - 2) / 2 := ⟨_, rfl⟩
 rw [← hrm] at hk2
 have HRM := Aside0.mk hrm
 have HK1 := Aside0.mk hk1
 have HK2 := Aside0.mk hk2
 clear hk1 hk2
 by_cases ho : (1 ≤ ver ∧ ver ≤ 1099511627776) ∧ many ≤ rm ∧ size ≤ many * 62 ∧ (many = 0 ∨ size > (many - 1) * 62)
 rotate_left
 ·
  --[
  have hno : Aside0 (refHead xs nb i = (0, 0, [], [], false)) := ⟨refHead_no HL.out (fun h => ho (by
   obtain ⟨_, _, a1, a2, a3, a4, a5⟩ := h
   rw [HN.out.1, HN.out.2.1] at *
   rw [HN.out.2.2.2] at a1 a2
   simp only [Int.toNat_natCast] at a1 a2 a3 a4 a5
   rw [← hrm] at a3
   exact ⟨⟨a1, a2⟩, a3, a4, a5⟩))⟩
  clear hrm
  by_cases q1 : vv < 1
  ·have b1 : decide (vv < 1) = true := decide_eq_true q1
   clear ho q1
   go_wp2_with fail
   refine bodyPost_ret (results_ct rfl _ _ rB 54 Z4 (0, 0) _ rfl (four_set HQ6.out _ _ _ _) Tryz.underlying54 rfl (by kernel_rfl)) rfl ?_
   exact zero_post0 hno.out HRB.out HB6.out
  have b1 : decide (vv < 1) = false := decide_eq_false q1
  by_cases q2 : 1099511627776 < vv
  ·have b2 : decide (1099511627776 < vv) = true := decide_eq_true q2
   clear ho q1 q2
   go_wp2_with fail
   refine bodyPost_ret (results_ct rfl _ _ rB 54 Z4 (0, 0) _ rfl (four_set HQ6.out _ _ _ _) Tryz.underlying54 rfl (by kernel_rfl)) rfl ?_
   exact zero_post0 hno.out HRB.out HB6.out
  have b2 : decide (1099511627776 < vv) = false := decide_eq_false q2
  have hvr : 1 ≤ ver ∧ ver ≤ 1099511627776 := by
   have h := HVR.out
   split at h
   ·omega
   ·omega
  clear q1 q2
  by_cases q3 : many ≤ rm
  rotate_left
  ·have b3 : decide (rm < many) = true := decide_eq_true (by omega)
   clear ho q3
   go_wp2_with fail
   refine (HK1.out _ HB6.out).mono ?_
   rintro e w7' ⟨rfl, m7, rfl⟩
   go_wp2_with fail
   refine (HK2.out _).mono ?_
   rintro e w7' ⟨rfl, m8, rfl⟩
   try rw [World.drewN_drewN]
   go_wp2_with fail
   refine bodyPost_ret (results_ct rfl _ _ rB 54 Z4 (0, 0) _ rfl (four_set HQ6.out _ _ _ _) Tryz.underlying54 rfl (by kernel_rfl)) rfl ?_
   exact zero_post hno.out HRB.out HB6.out _
  have b3 : decide (rm < many) = false := decide_eq_false (by omega)
  by_cases q4 : size ≤ many * 62
  rotate_left
  ·have b4 : decide (62 * (many : Int) < (size : Int)) = true := decide_eq_true (by omega)
   clear ho q3 q4
   go_wp2_with fail
   refine (HK1.out _ HB6.out).mono ?_
   rintro e w7' ⟨rfl, m7, rfl⟩
   go_wp2_with fail
   refine (HK2.out _).mono ?_
   rintro e w7' ⟨rfl, m8, rfl⟩
   try rw [World.drewN_drewN]
   go_wp2_with fail
   refine bodyPost_ret (results_ct rfl _ _ rB 54 Z4 (0, 0) _ rfl (four_set HQ6.out _ _ _ _) Tryz.underlying54 rfl (by kernel_rfl)) rfl ?_
   exact zero_post hno.out HRB.out HB6.out _
  have b4 : decide (62 * (many : Int) < (size : Int)) = false := decide_eq_false (by omega)
  have b5 : decide (0 < many) = true := decide_eq_true (by have : ¬ many = 0 := fun h => ho ⟨hvr, q3, q4, .inl h⟩; omega)
  have b6 : decide ((size : Int) ≤ 62 * ((many : Int) - 1)) = true := decide_eq_true (by
   have h1 : ¬ size > (many - 1) * 62 := fun h => ho ⟨hvr, q3, q4, .inr h⟩
   have h2 : ¬ many = 0 := fun h => ho ⟨hvr, q3, q4, .inl h⟩
   omega)
  clear ho q3 q4 hvr
  go_wp2_with fail
  refine (HK1.out _ HB6.out).mono ?_
  rintro e w7' ⟨rfl, m7, rfl⟩
  go_wp2_with fail
  refine (HK2.out _).mono ?_
  rintro e w7' ⟨rfl, m8, rfl⟩
  try rw [World.drewN_drewN]
  go_wp2_with fail
  refine bodyPost_ret (results_ct rfl _ _ rB 54 Z4 (0, 0) _ rfl (four_set HQ6.out _ _ _ _) Tryz.underlying54 rfl (by kernel_rfl)) rfl ?_
  exact zero_post hno.out HRB.out HB6.out _
  --]
 obtain ⟨⟨o1, o2⟩, o3, o4, o5⟩ := ho
 have hv2 : vv = (ver : Int) := by
  have h := HVR.out
  rwa [if_neg (by omega)] at h
 subst hv2
 have HOK : Aside0 (refHead xs nb i = match chainF xs nb many at0 [] [] with
   | none => (0, 0, [], [], false)
   | some (used, all) => if isZ (all.drop size) = true then ((i : Int), (ver : Int), used.map (fun (a : Nat) => (a : Int)), (readL (all.take size)).1, (readL (all.take size)).2) else (0, 0, [], [], false)) := ⟨by
  simp only [refHead, ← HL.out, HN.out.1, HN.out.2.1, HN.out.2.2.1, HN.out.2.2.2, Int.toNat_natCast]
  rw [if_pos ⟨HH.out, HZ.out, o1, o2, by rw [← HRM.out]; exact o3, o4, o5⟩]⟩
 clear hrm
 have b1 : decide ((ver : Int) < 1) = false := decide_eq_false (by omega)
 have b2 : decide (1099511627776 < (ver : Int)) = false := decide_eq_false (by omega)
 have b3 : decide (rm < many) = false := decide_eq_false (by omega)
 have b4 : decide (62 * (many : Int) < (size : Int)) = false := decide_eq_false (by omega)
 have HM5 := Aside0.mk o5
 go_cut [75] (fun v wx => v = .bool false ∧ ∃ m, wx = w6.drewN m)
 case first =>
  --[
  by_cases h0 : many = 0
  ·have b5 : decide (0 < many) = false := decide_eq_false (by omega)
   clear h0 o5
   go_wp2_with fail
   refine (HK1.out _ HB6.out).mono ?_
   rintro e w7' ⟨rfl, m7, rfl⟩
   go_wp2_with fail
   refine (HK2.out _).mono ?_
   rintro e w7' ⟨rfl, m8, rfl⟩
   try rw [World.drewN_drewN]
   go_wp2_with fail
   go_meet
   exact ⟨rfl, _, rfl⟩
  ·have b5 : decide (0 < many) = true := decide_eq_true (by omega)
   have b6 : decide ((size : Int) ≤ 62 * ((many : Int) - 1)) = false := decide_eq_false (by omega)
   clear h0 o5
   go_wp2_with fail
   refine (HK1.out _ HB6.out).mono ?_
   rintro e w7' ⟨rfl, m7, rfl⟩
   go_wp2_with fail
   refine (HK2.out _).mono ?_
   rintro e w7' ⟨rfl, m8, rfl⟩
   try rw [World.drewN_drewN]
   go_wp2_with fail
   go_meet
   exact ⟨rfl, _, rfl⟩
  --]
 case rest =>
 obtain ⟨rfl, m9, hw9⟩ := hcut
 have HB9 : Aside0 (Below w.heap.size w wc) := ⟨by rw [hw9]; exact pw_below_drewN HB6.out m9⟩
 have HQ9 : Aside0 (wc.heap[rB]? = some (.cells Z4 54 (0, 0))) := ⟨by rw [hw9]; exact HQ6.out⟩
 have HS9 : Aside0 (wc.heap[sB]? = some (.cells #[.int .i64 i, .int .i64 ver, .slice none 0 0, .slice none 0 0] 54 (0, 0))) := ⟨by rw [hw9]; exact HS6.out⟩
 clear hw9 HB6 HQ6 HS6 k0 k1 k2 k3 f0 f1 f2 f3 s0 s1 s2 s3 g0 g1 g2 g3 b1 b2 b3 b4 o5
 have hnb0 : (0 : Int) ≤ (nb : Int) := by omega
 have hnbl : ((nb : Int)).toNat * 1 ≤ 281474976710656 := by rw [Int.toNat_natCast]; omega
 go_wp2_with fail
 refine (HK1.out _ HB9.out).mono ?_
 rintro e w7' ⟨rfl, m7, rfl⟩
 have HB10 : Aside0 (Below w.heap.size w (wc.drewN m7)) := ⟨pw_below_drewN HB9.out m7⟩
 go_wp2_with ((with_reducible refine gate_dst (N := 79) rfl ?_); refine Kd.R_make Kd.bool (w0 := w) w.heap.size 4 rfl (N := 79) rfl 107 _ _ rfl (nb : Int) rfl rfl Tryz.underlying107 (.bool false) 1 info4 rfl (by decide) (by omega) false (ok := fun _ => True) (okp := fun _ => True) rfl (fun _ hk => hk) trivial hnb0 hnbl HB10.out HB10.out.size ?_; intro v10 w11 ho hb11 hg11 hn11)
 rw [Int.toNat_natCast, ← boolsF_nil] at ho
 obtain ⟨uB, cu, rfl, _, _, _, _⟩ := Kd.R_form ho (by rw [boolsF_len]; omega)
 rw [boolsF_len] at ho ⊢
 have HO := Aside0.mk ho
 have HB11 := Aside0.mk hb11
 have HQ11 : Aside0 (w11.heap[rB]? = some (.cells Z4 54 (0, 0))) := ⟨(hg11.block rB (blk_lt HQ9.out) (by simp)).trans HQ9.out⟩
 have HS11 : Aside0 (w11.heap[sB]? = some (.cells #[.int .i64 i, .int .i64 ver, .slice none 0 0, .slice none 0 0] 54 (0, 0))) := ⟨(hg11.block sB (blk_lt HS9.out) (by simp)).trans HS9.out⟩
 clear ho hb11 hg11 hn11 HB9 HQ9 HS9 HB10
 go_wp2_with fail
 refine (rword_n at0 (some ⟨a0.block, a0.off + 4, none⟩) 60 (c1 - 4) (hb.drop 4) w11 HN.out.2.2.1 (by rw [List.length_drop, H64.out]) (HTL.out w11 HB11.out 4 (by omega) (by omega)) (by omega) (by omega) (bytes_drop HBY.out _)).mono ?_
 rintro e w12' ⟨rfl, n12, rfl⟩
 have HB12 : Aside0 (Below w.heap.size w (w11.drewN n12)) := ⟨pw_below_drewN HB11.out n12⟩
 have hmany2 : many ≤ 127 := by have := HRM.out; omega
 have hnbB : Aside0 (1 ≤ nb) := ⟨by omega⟩
 go_wp2_with fail
 go_loopw [11, 12, 13] (fun v a k wr => HdRel w rB sB uB cu xs nb i ver many at0 v a k wr) (fun _ _ k _ => many - (intOf k).toNat)
 case atStart => exact ⟨0, at0, [], [], .slice none 0 0, rfl, rfl, by omega, bat, rfl, rfl, ⟨rfl⟩, ⟨fun _ h => by simp at h⟩, ⟨Kd.R_nil _ _ _ _ _⟩, ⟨Kd.R_drewN HO.out n12⟩, ⟨Kd.R_nil _ _ _ _ _⟩, ⟨HS11.out⟩, ⟨HQ11.out⟩, ⟨HB12.out⟩⟩
 case round =>
  obtain ⟨k, a, used, all, uv, rfl, rfl, hk, ha, hul, hal, HCH, HAB, HOA, HOU, HOV, HS, HQ, HB⟩ := hrel
  by_cases hkm : k = many
  ·subst hkm
   have hch := HCH.out
   rw [Nat.sub_self, chainF] at hch
   obtain ⟨bad, hbad⟩ : ∃ bad, bad = !(decide (a = 0) && isZ (all.drop size)) := ⟨_, rfl⟩
   have HBAD := Aside0.mk hbad
   have HCE := Aside0.mk hch.symm
   have hsa : size ≤ all.length := by omega
   have lal : all.length ≤ 20000 := by omega
   obtain ⟨AA, ca, rfl, hla, hCA⟩ := Kd.R_reads HOA.out
   have HCA := Aside0.mk hCA
   have hcm : ca ≤ maxLen := by
    obtain ⟨_, inner, ho, _⟩ := HOA.out
    rcases ho.2 with ⟨h, _⟩ | ⟨g, cap, cur, hv, _, _, _, hm, _⟩
    ·injection h with _ _ h3; omega
    ·injection hv with _ _ h3; omega
   obtain ⟨i5, hi5, _, hs5, _⟩ := info_parts info5
   obtain ⟨A2, hcut2, hread2⟩ := print_cut_of (P := Tryz.prog) (Value.int .u8) (0 : Int) 22 5 .i64 Tryz.underlying22 hi5 hs5 AA all.length ca size hsa
   have HRD := Aside0.mk (Kd.C_of_reads (h1 := fun _ => rfl) (hread2 wr all hla (Kd.reads_of_C (d := (0 : Int)) (h1 := fun _ => rfl) HCA.out)))
   clear hread2 hi5 hs5 hCA hbad hch
   go_upto_region 22 with fail
   obtain ⟨la, hlal⟩ : ∃ la, la = all.length := ⟨_, rfl⟩
   rw [← hlal] at hcut2 lal hsa hla hal ⊢
   have HLA := Aside0.mk hlal
   have HALQ := Aside0.mk hal
   clear hlal hal
   go_cut [129] (fun v wx => v = .bool bad ∧ ∃ m, wx = wr.drewN m)
   case first =>
    --[
    by_cases q1 : a = 0
    rotate_left
    ·have b1 : ((a : Int) != 0) = true := by rw [bne_iff_ne]; omega
     have hv : bad = true := by rw [HBAD.out, decide_eq_false q1]; rfl
     clear q1
     go_wp2_with fail
     go_meet
     exact ⟨by rw [hv], 0, rfl⟩
    have b1 : ((a : Int) != 0) = false := by rw [q1]; rfl
    have hv : bad = !isZ (all.drop size) := by rw [HBAD.out, decide_eq_true q1]; rfl
    have HV := Aside0.mk hv
    have hzc := rzeros_n A2 (la - size) (ca - size) (all.drop size) wr (by rw [List.length_drop, HLA.out]) (by rw [HLA.out]; exact HRD.out) (Nat.sub_le_sub_right hla size)
    have HZC := Aside0.mk hzc
    clear hv hzc q1
    go_wp2_with fail
    refine (HZC.out).mono ?_
    rintro e w30 ⟨rfl, n30, rfl⟩
    go_wp2_with fail
    go_meet
    exact ⟨by rw [HV.out], _, rfl⟩
    --]
   case rest =>
   obtain ⟨rfl, m30, hw30⟩ := hcut
   have HOA30 : Aside0 (Kd.R (Kd.int .u8) 5 wc w.heap.size (fun _ => True) (.slice AA la ca) all) := ⟨by rw [hw30, HLA.out]; exact Kd.R_drewN HOA.out m30⟩
   have HOV30 : Aside0 (Kd.R (Kd.int .i64) 3 wc w.heap.size (fun _ => True) uv (used.map (fun (a : Nat) => (a : Int)))) := ⟨by rw [hw30]; exact Kd.R_drewN HOV.out m30⟩
   have HS30 : Aside0 (wc.heap[sB]? = some (.cells #[.int .i64 i, .int .i64 ver, uv, .slice none 0 0] 54 (0, 0))) := ⟨by rw [hw30]; exact HS.out⟩
   have HQ30 : Aside0 (wc.heap[rB]? = some (.cells Z4 54 (0, 0))) := ⟨by rw [hw30]; exact HQ.out⟩
   have HB30 : Aside0 (Below w.heap.size w wc) := ⟨by rw [hw30]; exact pw_below_drewN HB.out m30⟩
   clear hw30 HOA HOV HS HQ HB HOU HCA HRD hcut2
   cases bad with
   | true =>
    --[
    have hno : Aside0 (refHead xs nb i = (0, 0, [], [], false)) := ⟨by
     rw [HOK.out, HCE.out]
     have h := HBAD.out
     by_cases h0 : a = 0
     ·rw [if_pos h0]
      subst h0
      simp only
      rw [if_neg (by intro h2; rw [h2] at h; cases h)]
     ·rw [if_neg h0]⟩
    obtain ⟨k0, k1, k2, k3, f0, f1, f2, f3⟩ := four_cells HQ30.out
    iterate 40 (try (first | go_skip | go_guarded | go_step | go_upon | go_values))
    refine bodyPost_ret (results_ct rfl _ _ rB 54 Z4 (0, 0) _ rfl (four_set HQ30.out _ _ _ _) Tryz.underlying54 rfl (by kernel_rfl)) rfl ?_
    exact zero_post0 hno.out HRB.out HB30.out
    --]
   | false =>
    have hyes : Aside0 (refHead xs nb i = ((i : Int), (ver : Int), used.map (fun (a : Nat) => (a : Int)), (readL (all.take size)).1, (readL (all.take size)).2)) := ⟨by
     rw [HOK.out, HCE.out]
     have h := HBAD.out
     have h1 : decide (a = 0) = true ∧ isZ (all.drop size) = true := by
      cases h3 : decide (a = 0) <;> cases h4 : isZ (all.drop size) <;> rw [h3, h4] at h <;> first | exact ⟨rfl, rfl⟩ | cases h
     rw [if_pos (of_decide_eq_true h1.1)]
     simp only
     rw [if_pos h1.2]⟩
    have hlt : (all.take size).length = size := by rw [List.length_take, ← HLA.out]; omega
    have hV : Kd.V (Kd.int .u8) 5 wc wc.heap.size (fun _ => True) (.slice AA size ca) (all.take size) := by
     have h1 := HOA30.out
     have h2 := Kd.R_F h1
     rw [HLA.out] at h2
     have h3 := Kd.F_take h2 (m := size) (by rw [← HLA.out]; exact hsa)
     have h4 := Kd.V_mk (e := 5) (base := wc.heap.size) (c := ca) (by rw [hlt]; omega) h3
     rwa [hlt] at h4
    have HVV2 := Aside0.mk hV
    have HLT := Aside0.mk hlt
    clear hV hlt
    go_wp2_with fail
    refine (rread_n AA size ca (all.take size) wc HLT.out HVV2.out (bytes_take HAB.out _) (by rw [HLT.out]; omega)).mono ?_
    rintro e w31 ⟨v31, rfl, hS31, hB31⟩
    obtain ⟨A31, c31, rfl⟩ := Kd.R_slice (Kd.S_R hS31)
    obtain ⟨Au, cu2, rfl⟩ := Kd.R_slice HOV30.out
    have hov31 := Kd.R_step (w1 := w31) HOV30.out (fun k _ hl => hB31.block k hl)
    have hs31 := (hB31.block sB (blk_lt HS30.out)).trans HS30.out
    have hq31 := (hB31.block rB (blk_lt HQ30.out)).trans HQ30.out
    have hsl : sB < wc.heap.size := blk_lt HS30.out
    have hrl : rB < wc.heap.size := blk_lt HQ30.out
    have HB31 : Aside0 (Below w.heap.size w w31) := ⟨HB30.out.trans (hB31.mono HB30.out.size)⟩
    obtain ⟨rl, hrl2⟩ : ∃ rl, rl = readL (all.take size) := ⟨_, rfl⟩
    have hY := hyes.out
    rw [← hrl2] at hY hS31 ⊢
    clear hrl2 hyes
    obtain ⟨rl1, rl2⟩ := rl
    simp only at hY hS31 ⊢
    generalize hn31 : rl1.length = n31 at hS31 hs31 hq31 hov31 ⊢
    generalize hnu : (used.map (fun (a : Nat) => (a : Int))).length = nu at hov31 hs31 ⊢
    have HS31 := Aside0.mk hS31
    have HOV31 := Aside0.mk hov31
    have HQ31 := Aside0.mk hq31
    have HSB := Aside0.mk hs31
    have HYY := Aside0.mk hY
    have HLEN := Aside0.mk hn31
    clear hS31 hov31 hq31 hY hn31 hnu hB31 HOV30 HS30 HQ30
    obtain ⟨k0, k1, k2, k3, f0, f1, f2, f3⟩ := four_cells hs31
    clear hs31
    go_upto_region 26 with fail
    obtain ⟨w32, hw32⟩ : ∃ w32, w32 = w31.setCell ⟨sB, 3, none⟩ (.slice A31 n31 c31) := ⟨_, rfl⟩
    rw [← hw32]
    have hs32 : w32.heap[sB]? = some (.cells #[.int .i64 i, .int .i64 ver, .slice Au nu cu2, .slice A31 n31 c31] 54 (0, 0)) := by rw [hw32]; have := blk_set HSB.out 3 (.slice A31 n31 c31); simpa using this
    have hne := HNE.out
    have hq32 : w32.heap[rB]? = some (.cells Z4 54 (0, 0)) := by rw [hw32, Below.heap_setCell _ _ _ _ (by simp; omega)]; exact HQ31.out
    have hS32 := Kd.S_far (p := ⟨sB, 3, none⟩) HS31.out (fun k hk => by simp; omega) (.slice A31 n31 c31)
    have hO32 := Kd.R_set HOV31.out HSB.out (by decide) 3 (.slice A31 n31 c31)
    have hB32 : Below w.heap.size w w32 := by rw [hw32]; exact below_set HB31.out (by omega)
    rw [← hw32] at hS32 hO32
    have HS32 := Aside0.mk hS32
    have HO32 := Aside0.mk hO32
    have HB32 := Aside0.mk hB32
    have HQ32 := Aside0.mk hq32
    have HRL := Aside0.mk hrl
    have HWL := Aside0.mk HB30.out.size
    clear hS32 hO32 hB32 hw32 hne hrl hsl k0 k1 k2 k3 f0 f1 f2 f3 HSB HS31 HOV31 HQ31 HB31
    obtain ⟨k0, k1, k2, k3, f0, f1, f2, f3⟩ := four_cells hs32
    obtain ⟨j0, j1, j2, j3, g0, g1, g2, g3⟩ := four_cells hq32
    clear hs32 hq32
    iterate 40 (try (first | go_skip | go_guarded | go_step | go_upon | go_values))
    refine bodyPost_ret (results_ct rfl _ _ rB 54 #[.int .i64 i, .int .i64 ver, .slice Au nu cu2, .slice A31 n31 c31] (0, 0) _ rfl (four_set HQ32.out _ _ _ _) Tryz.underlying54 rfl (by kernel_rfl)) rfl ?_
    rw [HYY.out]
    refine ⟨.slice Au nu cu2, .slice A31 n31 c31, rfl, ?_, ?_, below_sets HB32.out HRB.out _ _ _ _⟩
    ·have h1 := HO32.out
     have t1 := HQ32.out
     have h2 := Kd.R_set h1 t1 (by decide) 0 (.int .i64 i)
     have t2 := blk_set t1 0 (.int .i64 i)
     have h3 := Kd.R_set h2 t2 (by decide) 1 (.int .i64 ver)
     have t3 := blk_set t2 1 (.int .i64 ver)
     have h4 := Kd.R_set h3 t3 (by decide) 2 (.slice Au nu cu2)
     have t4 := blk_set t3 2 (.slice Au nu cu2)
     exact Kd.R_set h4 t4 (by decide) 3 (.slice A31 n31 c31)
    ·have hne : ∀ k, wc.heap.size ≤ k → k ≠ rB := fun k hk => by have := HRL.out; omega
     exact Kd.S_mono (Kd.S_lower (Kd.S_far (p := ⟨rB, 3, none⟩) (Kd.S_far (p := ⟨rB, 2, none⟩) (Kd.S_far (p := ⟨rB, 1, none⟩) (Kd.S_far (p := ⟨rB, 0, none⟩) HS32.out hne _) hne _) hne _) hne _) HWL.out) (fun _ _ => trivial)
  ·have hkl : k < many := by omega
   have hkd : decide (k < many) = true := decide_eq_true hkl
   obtain ⟨m, hm⟩ : ∃ m, many - k = m + 1 := ⟨many - k - 1, by omega⟩
   have HMK := Aside0.mk hm
   clear hm hkm
   obtain ⟨bad, hbad⟩ : ∃ bad, bad = !(decide (2 ≤ a) && decide (a < nb) && !(used.contains a)) := ⟨_, rfl⟩
   have HBAD := Aside0.mk hbad
   clear hbad
   go_upto_region 15 with fail
   go_cut [101] (fun v wx => v = .bool bad ∧ wx = wr)
   case first =>
    --[
    by_cases q1 : 2 ≤ a
    rotate_left
    ·have b1 : decide ((a : Int) < 2) = true := decide_eq_true (by omega)
     have hv : bad = true := by rw [HBAD.out, decide_eq_false q1]; rfl
     clear q1
     go_wp2_with fail
     go_meet
     exact ⟨by rw [hv], rfl⟩
    have b1 : decide ((a : Int) < 2) = false := decide_eq_false (by omega)
    by_cases q2 : a < nb
    rotate_left
    ·have b2 : decide (nb ≤ a) = true := decide_eq_true (by omega)
     have hv : bad = true := by rw [HBAD.out, decide_eq_false q2, Bool.and_false]; rfl
     clear q1 q2
     go_wp2_with fail
     go_meet
     exact ⟨by rw [hv], rfl⟩
    have b2 : decide (nb ≤ a) = false := decide_eq_false (by omega)
    have b4 : (a : Int) < (nb : Int) := by omega
    have hv : bad = used.contains a := by rw [HBAD.out, decide_eq_true q1, decide_eq_true q2]; simp
    obtain ⟨x1, x2⟩ := Kd.R_celln false HOU.out (a : Int) (by omega) b4
    rw [boolsF_get _ _ _ q2, Int.toNat_natCast] at x1
    rw [Int.toNat_natCast] at x2
    rw [← hv] at x1
    clear q1 q2 hv
    go_wp2_with fail
    go_meet
    exact ⟨rfl, rfl⟩
    --]
   case rest =>
   obtain ⟨rfl, rfl⟩ := hcut
   have HBAD2 : Aside0 (bad = true ↔ ¬ (2 ≤ a ∧ a < nb ∧ used.contains a = false)) := ⟨by rw [HBAD.out]; cases used.contains a <;> simp <;> omega⟩
   cases bad with
   | true =>
    --[
    have hno : Aside0 (refHead xs nb i = (0, 0, [], [], false)) := ⟨by
     have h := HCH.out
     rw [HMK.out, chain_no _ _ _ _ _ _ (HBAD2.out.1 rfl)] at h
     rw [HOK.out, ← h]⟩
    obtain ⟨k0, k1, k2, k3, f0, f1, f2, f3⟩ := four_cells HQ.out
    iterate 40 (try (first | go_skip | go_guarded | go_step | go_upon | go_values))
    refine bodyPost_ret (results_ct rfl _ _ rB 54 Z4 (0, 0) _ rfl (four_set HQ.out _ _ _ _) Tryz.underlying54 rfl (by kernel_rfl)) rfl ?_
    exact zero_post0 hno.out HRB.out HB.out
    --]
   | false =>
    have hgo : 2 ≤ a ∧ a < nb ∧ used.contains a = false := by
     have h := HBAD2.out
     exact Classical.not_not.1 (fun h2 => by have := h.2 h2; cases this)
    obtain ⟨q1, q2, q3⟩ := hgo
    have b4 : (a : Int) < (nb : Int) := by omega
    have b5 : (0 : Int) ≤ (a : Int) := by omega
    obtain ⟨x1, x2⟩ := Kd.R_celln false HOU.out (a : Int) b5 b4
    have HP := Kd.R_putg HOU.out (a : Int) true
    rw [boolsF_set, Int.toNat_natCast] at HP
    rw [Int.toNat_natCast] at x1 x2
    obtain ⟨hp1, hp2⟩ := HP
    have HU2 := Aside0.mk hp1
    have ht2 : ∀ r, some uB = some r → ∃ cells, wc.heap[r]? = some (.cells cells 4 (0, 0)) := fun r hr => R_typed HOU.out r hr
    have hb2 : ∀ r, some uB = some r → w.heap.size ≤ r := fun r hr => R_base HOU.out r hr
    go_upto_region 18 with fail
    obtain ⟨w15, hw15⟩ : ∃ w15, w15 = wc.setCell ⟨uB, a, none⟩ (.bool true) := ⟨_, rfl⟩
    rw [← hw15]
    rw [← hw15] at hp2 hp1
    have HOU15 := Aside0.mk hp1
    have HOA15 := Aside0.mk (R_apart HOA.out hp2 (fun r hr => by obtain ⟨cells, h⟩ := ht2 r hr; exact ⟨_, cells, h, by decide⟩))
    have HOV15 := Aside0.mk (R_apart HOV.out hp2 (fun r hr => by obtain ⟨cells, h⟩ := ht2 r hr; exact ⟨_, cells, h, by decide⟩))
    have HS15 := Aside0.mk (blk_apart HS.out hp2 (fun r hr => by obtain ⟨cells, h⟩ := ht2 r hr; exact ⟨_, cells, h, by decide⟩))
    have HQ15 := Aside0.mk (blk_apart HQ.out hp2 (fun r hr => by obtain ⟨cells, h⟩ := ht2 r hr; exact ⟨_, cells, h, by decide⟩))
    have HB15 : Aside0 (Below w.heap.size w w15) := ⟨HB.out.grown hp2 HB.out.size (fun r hr => hb2 r hr)⟩
    have hul' : used.length ≤ 1000 := by omega
    clear hp1 hp2 ht2 hb2 x1 x2 HU2 HOU HOA HOV HS HQ HB hw15
    obtain ⟨k0, k1, k2, k3, f0, f1, f2, f3⟩ := four_cells HS15.out
    have HK2 := Aside0.mk hul'
    clear hul'
    go_wp2_with (at_builtin; refine Kd.R_append (Kd.int .i64) (w0 := w) w.heap.size rfl (.tmp 107) (.tmp 109) 24 3 (.int .i64 0) 8 rfl Tryz.underlying24 info3 rfl (by decide) (by omega) uv (used.map (fun (a : Nat) => (a : Int))) (a : Int) [.int .i64 (a : Int)] (fun _ => True) (fun _ => False) rfl rfl ?aP (fun _ hk => hk.elim) ?aF ?aO ?aB ?aS ?aL ?_)
    case aP => exact rfl
    case aF => exact fun _ _ => trivial
    case aO => exact HOV15.out
    case aB => exact HB15.out
    case aS => exact HB15.out.size
    case aL => rw [List.length_map]; have := HK2.out; omega
    intro v16 w16 ho16 hb16 hg16 hat16
    have ht2 : ∀ r, uv.ownBlock = some r → ∃ cells, w15.heap[r]? = some (.cells cells 3 (0, 0)) := fun r hr => R_typed HOV15.out r hr
    have HOU16 := Aside0.mk (R_apart HOU15.out hg16 (fun r hr => by obtain ⟨cells, h⟩ := ht2 r hr; exact ⟨_, cells, h, by decide⟩))
    have HOA16 := Aside0.mk (R_apart HOA15.out hg16 (fun r hr => by obtain ⟨cells, h⟩ := ht2 r hr; exact ⟨_, cells, h, by decide⟩))
    have hs16 := blk_apart HS15.out hg16 (fun r hr => by obtain ⟨cells, h⟩ := ht2 r hr; exact ⟨_, cells, h, by decide⟩)
    have HQ16 := Aside0.mk (blk_apart HQ15.out hg16 (fun r hr => by obtain ⟨cells, h⟩ := ht2 r hr; exact ⟨_, cells, h, by decide⟩))
    have HB16 := Aside0.mk hb16
    obtain ⟨A16, c16, rfl⟩ := Kd.R_slice ho16
    generalize (used.map (fun (a : Nat) => (a : Int)) ++ [(a : Int)]).length = n16 at ho16 ⊢
    have HOV16 := Aside0.mk ho16
    clear ho16 hb16 hg16 hat16 ht2 k0 k1 k2 k3 f0 f1 f2 f3 HOU15 HOA15 HOV15 HS15 HQ15 HB15
    obtain ⟨k0, k1, k2, k3, f0, f1, f2, f3⟩ := four_cells hs16
    go_upto_region 19 with fail
    obtain ⟨w17, hw17⟩ : ∃ w17, w17 = w16.setCell ⟨sB, 2, none⟩ (.slice A16 n16 c16) := ⟨_, rfl⟩
    rw [← hw17]
    have hgs : w16.grownBy w17 (some sB) := by rw [hw17]; exact grown_set 2 _
    have hts : ∀ r, some sB = some r → ∃ cells, w16.heap[r]? = some (.cells cells 54 (0, 0)) := fun r hr => by injection hr with hr; subst hr; exact ⟨_, hs16⟩
    have HOU17 := Aside0.mk (R_apart HOU16.out hgs (fun r hr => by obtain ⟨cells, h⟩ := hts r hr; exact ⟨_, cells, h, by decide⟩))
    have HOA17 := Aside0.mk (R_apart HOA16.out hgs (fun r hr => by obtain ⟨cells, h⟩ := hts r hr; exact ⟨_, cells, h, by decide⟩))
    have HOV17 := Aside0.mk (R_apart HOV16.out hgs (fun r hr => by obtain ⟨cells, h⟩ := hts r hr; exact ⟨_, cells, h, by decide⟩))
    have hs17 : w17.heap[sB]? = some (.cells #[.int .i64 i, .int .i64 ver, .slice A16 n16 c16, .slice none 0 0] 54 (0, 0)) := by rw [hw17]; have := blk_set hs16 2 (.slice A16 n16 c16); simpa using this
    have hne := HNE.out
    have HQ17 : Aside0 (w17.heap[rB]? = some (.cells Z4 54 (0, 0))) := ⟨(hgs.block rB (blk_lt HQ16.out) (by simp; omega)).trans HQ16.out⟩
    have HB17 : Aside0 (Below w.heap.size w w17) := ⟨HB16.out.grown hgs HB16.out.size (fun r hr => by injection hr with hr; omega)⟩
    have HS17 := Aside0.mk hs17
    clear hgs hts hs16 hs17 hw17 hne k0 k1 k2 k3 f0 f1 f2 f3 HOU16 HOA16 HOV16 HQ16 HB16
    have HQA : Aside0 (2 ≤ a ∧ a < nb ∧ used.contains a = false) := ⟨⟨q1, q2, q3⟩⟩
    clear q3
    have HAL := Aside0.mk hal
    have HUL := Aside0.mk hul
    clear hal hul
    go_wp2_with fail
    refine (rblock_any _ _ _ _ _ hn hc (by omega)).mono ?_
    rintro e w18 ⟨rfl, rfl⟩
    obtain ⟨a1, ha1⟩ : ∃ a1, a1 = ad.add (a * 64) := ⟨_, rfl⟩
    obtain ⟨c2, hc2⟩ : ∃ c2, c2 = c - a * 64 := ⟨_, rfl⟩
    have h642 : 64 ≤ c2 := by omega
    simp only [Option.map_some, ← ha1, ← hc2]
    have hblk2 : Kd.C (Kd.int .u8) w (some a1) 64 (blkL xs a) := by
     have h1 := C_takeN (C_dropN HR.out (a * 64) (by omega) hn) 64 (by omega)
     rw [if_neg (by omega), Option.map_some, ← ha1] at h1
     exact h1
    have HBL2 := Aside0.mk hblk2
    have h64b : (blkL xs a).length = 64 := C_len hblk2
    have H642 := Aside0.mk h64b
    have hby2 : IsBytes (blkL xs a) := bytes_take (bytes_drop HBT.out _) _
    have HBY2 := Aside0.mk hby2
    obtain ⟨a2, ha2, hba2⟩ := numb_nat ((blkL xs a).take 2) (bytes_take hby2 _) 2 (List.length_take_le _ _)
    have hba3 : a2 < 65536 := hba2
    have HA2 := Aside0.mk ha2
    clear ha1 hc2 hblk2 h64b hby2 ha2 hba2
    have hl1 : all.length ≤ 20000 := by have := HAL.out; omega
    go_wp2_with (at_builtin; refine Kd.R_append_row (Value.int .u8) (0 : Int) (h1 := fun _ => rfl) (w0 := w) w.heap.size rfl (.tmp 115) (.tmp 117) 22 5 (.int .u8 0) 1 rfl Tryz.underlying22 info5 rfl (by decide) u11 all ((blkL xs a).drop 2) (some ⟨a1.block, a1.off + 2, none⟩) 62 (c2 - 2) (fun _ => True) rfl rfl (fun _ _ => trivial) HOA17.out ?aR HB17.out ?aZ ?aL ?_)
    case aR =>
     have h := sub_C (Kd.C_below HBL2.out HB17.out) 2 62 (by omega) (by omega) (by omega)
     rwa [List.take_of_length_le (by rw [List.length_drop, H642.out]; omega)] at h
    case aZ => exact HB17.out.size
    case aL => omega
    intro v1 w19 hR hB19 hG19 hat19
    have ht2 : ∀ r, u11.ownBlock = some r → ∃ cells, w17.heap[r]? = some (.cells cells 5 (0, 0)) := fun r hr => R_typed HOA17.out r hr
    have HOU19 := Aside0.mk (R_apart HOU17.out hG19 (fun r hr => by obtain ⟨cells, h⟩ := ht2 r hr; exact ⟨_, cells, h, by decide⟩))
    have HOV19 := Aside0.mk (R_apart HOV17.out hG19 (fun r hr => by obtain ⟨cells, h⟩ := ht2 r hr; exact ⟨_, cells, h, by decide⟩))
    have HS19 := Aside0.mk (blk_apart HS17.out hG19 (fun r hr => by obtain ⟨cells, h⟩ := ht2 r hr; exact ⟨_, cells, h, by decide⟩))
    have HQ19 := Aside0.mk (blk_apart HQ17.out hG19 (fun r hr => by obtain ⟨cells, h⟩ := ht2 r hr; exact ⟨_, cells, h, by decide⟩))
    have HB19 := Aside0.mk hB19
    have HOA19 := Aside0.mk hR
    clear hR hB19 hG19 hat19 ht2
    go_wp2_with fail
    refine (rword_n a2 (some a1) 64 c2 (blkL xs a) w19 HA2.out H642.out (Kd.C_below HBL2.out HB19.out) h642 (by omega) HBY2.out).mono ?_
    rintro e w20 ⟨rfl, n20, rfl⟩
    go_wp2_with fail
    go_roundw
    case measure => simp [intOf]; omega
    case rel =>
     refine ⟨k + 1, a2, used ++ [a], all ++ (blkL xs a).drop 2, .slice A16 n16 c16, by go_num, rfl, by omega, hba3, ?_, ?_, ⟨?_⟩, ⟨?_⟩, ⟨Kd.R_drewN HOA19.out n20⟩, ⟨Kd.R_drewN HOU19.out n20⟩, ⟨?_⟩, ⟨HS19.out⟩, ⟨HQ19.out⟩, ⟨pw_below_drewN HB19.out n20⟩⟩
     ·have := HUL.out; simp; omega
     ·rw [List.length_append, List.length_drop, H642.out, HAL.out]; omega
     ·rw [← HCH.out, HMK.out, chain_step xs nb m a used all a2 HQA.out.1 HQA.out.2.1 HQA.out.2.2 HA2.out]
      congr 1
      have := HMK.out
      omega
     ·intro y hy
      rcases List.mem_append.1 hy with h | h
      ·exact HAB.out y h
      ·exact bytes_drop HBY2.out _ y h
     ·rw [List.map_append]; exact Kd.R_drewN HOV19.out n20
def berylref20_head.f (l0 : List Int) (a1 : Int) : Option (Int × Int × List Int × List S40 × Bool) :=
 if IsBytes l0 ∧ sizeOk l0.length = true ∧ 0 ≤ a1 ∧ a1 < 8 then some (refHead l0 (l0.length / 64) a1.toNat) else none
theorem berylref20_head.calls (A0 : Option Addr) (c0 : Nat) (l0 : List Int) (a1 : Int) (r1 r2 : Int) (r3 : List Int) (r4 : List S40) (r5 : Bool) (w : World) (hr0 : Kd.C (Kd.int .u8) w A0 l0.length l0) (hc0 : l0.length ≤ c0) (h : berylref20_head.f l0 a1 = some (r1, r2, r3, r4, r5)) :
  Calls Tryz.prog 49 #[.slice A0 l0.length c0, .int .i64 a1] w fun e w' => ∃ v2_ v3_ : Value, e = .returned (.tuple #[.agg #[.int .i64 r1, .int .i64 r2, v2_, v3_], .bool r5]) ∧ Kd.R (Kd.int .i64) 3 w' w.heap.size (fun _ => True) v2_ r3 ∧ Kd.S k40 40 w' w.heap.size (fun _ => True) v3_ r4 ∧ Below w.heap.size w w' := by
 unfold berylref20_head.f at h
 by_cases hc : IsBytes l0 ∧ sizeOk l0.length = true ∧ 0 ≤ a1 ∧ a1 < 8
 rotate_left
 ·rw [if_neg hc] at h; cases h
 rw [if_pos hc] at h
 obtain ⟨hb, hs, h0, h1⟩ := hc
 unfold sizeOk at hs
 simp at hs
 obtain ⟨⟨s1, s2⟩, s3⟩ := hs
 obtain ⟨i, rfl⟩ := Int.eq_ofNat_of_zero_le h0
 rw [Int.toNat_natCast] at h
 have h := Option.some.inj h
 obtain ⟨ad, x, rfl, _, _⟩ := cellN hr0 0 (by omega) (Nat.le_refl _)
 have hi8 : i < 8 := by omega
 have hle : (i + 1) * 64 ≤ l0.length := by omega
 have := rhead_any ad l0.length c0 i l0 w hr0 hc0 hb hle (l0.length / 64) (by omega) (by omega) (by omega)
 rw [h] at this
 exact this
open Go Go.RowKit Go.Deep Go.Proofs.YtcdpkdehogcjnaaGreatW.PrintWords Go.Proofs.YtcdpkdehogcjnaaGreatW.PrintLast Go.Proofs.YtcdpkdehogcjnaaGreatW.PrintMore
def berylref20_open.f (l0 : List Int) : Option (Int × Int × List Int × (List S40) × Bool) := (berylref20_blocks.f l0).bind fun n => (if n = 0 then (some (0, 0, ([] : List Int), ([] : List S40), false)) else ((berylref20_head.f l0 0).bind fun a => ((berylref20_head.f l0 1).bind fun b => (if b.2.2.2.2 = true then (if a.2.2.2.2 = true then (if b.2.1 > a.2.1 then (some (b.1, b.2.1, b.2.2.1, b.2.2.2.1, true)) else (some (a.1, a.2.1, a.2.2.1, a.2.2.2.1, a.2.2.2.2))) else (some (b.1, b.2.1, b.2.2.1, b.2.2.2.1, true))) else (some (a.1, a.2.1, a.2.2.1, a.2.2.2.1, a.2.2.2.2))))))
theorem R_store4 {α : Type} {d : Kd α} {e base g t : Nat} {ok : Nat → Prop} {W : World} {v : Value} {xs : List α} {cs : Array Value} (h : d.R e W base ok v xs) (hb : W.heap[g]? = some (.cells cs t (0, 0))) (ht : ∀ q, q ∈ e :: d.E → q ≠ t) (a b c u : Value) :
  d.R e ((((W.setCell ⟨g, 0, none⟩ a).setCell ⟨g, 1, none⟩ b).setCell ⟨g, 2, none⟩ c).setCell ⟨g, 3, none⟩ u) base ok v xs :=
 Kd.R_mono (Kd.R_far (p := ⟨g, 3, none⟩) (Kd.R_far (p := ⟨g, 2, none⟩) (Kd.R_far (p := ⟨g, 1, none⟩) (Kd.R_far (p := ⟨g, 0, none⟩) (Kd.R_types h hb ht) (fun _ hk => hk.2) a) (fun _ hk => hk.2) b) (fun _ hk => hk.2) c) (fun _ hk => hk.2) u) (fun _ h => h.1)
theorem S_store4 {α : Type} {d : Kd α} {e base g t : Nat} {ok : Nat → Prop} {W : World} {v : Value} {xs : List α} {cs : Array Value} (h : Kd.S d e W base ok v xs) (hb : W.heap[g]? = some (.cells cs t (0, 0))) (ht : ∀ q, q ∈ e :: d.E → q ≠ t) (a b c u : Value) :
  Kd.S d e ((((W.setCell ⟨g, 0, none⟩ a).setCell ⟨g, 1, none⟩ b).setCell ⟨g, 2, none⟩ c).setCell ⟨g, 3, none⟩ u) base ok v xs :=
 Kd.S_mono (Kd.S_far (p := ⟨g, 3, none⟩) (Kd.S_far (p := ⟨g, 2, none⟩) (Kd.S_far (p := ⟨g, 1, none⟩) (Kd.S_far (p := ⟨g, 0, none⟩) (Kd.S_types h hb ht) (fun _ hk => hk.2) a) (fun _ hk => hk.2) b) (fun _ hk => hk.2) c) (fun _ hk => hk.2) u) (fun _ h => h.1)
theorem below_store4 {w W : World} {g : Nat} (h : Below w.heap.size w W) (hg : w.heap.size ≤ g) (a b c u : Value) : Below w.heap.size w ((((W.setCell ⟨g, 0, none⟩ a).setCell ⟨g, 1, none⟩ b).setCell ⟨g, 2, none⟩ c).setCell ⟨g, 3, none⟩ u) :=
 below_set (below_set (below_set (below_set h hg) hg) hg) hg
theorem blk_store4 {W : World} {g : Nat} {t : TypeId} {x0 x1 x2 x3 : Value} (h : W.heap[g]? = some (.cells #[x0, x1, x2, x3] t (0, 0))) (a b c u : Value) :
  ((((W.setCell ⟨g, 0, none⟩ a).setCell ⟨g, 1, none⟩ b).setCell ⟨g, 2, none⟩ c).setCell ⟨g, 3, none⟩ u).heap[g]? = some (.cells #[a, b, c, u] t (0, 0)) :=
 blk_put (blk_put (blk_put (blk_put h 0 _ rfl) 1 _ rfl) 2 _ rfl) 3 _ rfl
set_option maxRecDepth 100000 in
set_option maxHeartbeats 2000000 in
theorem ropen_none (A0 : Option Addr) (c0 : Nat) (l0 : List Int) (w : World) (hr0 : Kd.C (Kd.int .u8) w A0 l0.length l0) (hc0 : l0.length ≤ c0) {n : Int} (hn : berylref20_blocks.f l0 = some n) (h0 : n = 0) :
  Calls Tryz.prog 26 #[.slice A0 l0.length c0] w fun e w' => ∃ v2_ v3_ : Value, e = .returned (.tuple #[.agg #[.int .i64 0, .int .i64 0, v2_, v3_], .bool false]) ∧ Kd.R (Kd.int .i64) 3 w' w.heap.size (fun _ => True) v2_ [] ∧ Kd.S k40 40 w' w.heap.size (fun _ => True) v3_ [] ∧ Below w.heap.size w w' := by
 have HR := Aside0.mk hr0
 clear hr0
 have HN := Aside0.mk hn
 have d0 : (n == 0) = true := by rw [beq_iff_eq]; exact h0
 clear hn h0
 go_enter Tryz.func26, Tryz.ntmps26
 go_wp2_with fail
 obtain ⟨rB, hrB⟩ : ∃ rB, rB = w.heap.size := ⟨_, rfl⟩
 rw [← hrB]
 obtain ⟨w1, hw1⟩ : ∃ w1, w1 = w.alloc (Obj.cells #[Value.int IntKind.i64 0, Value.int IntKind.i64 0, Value.slice none 0 0, Value.slice none 0 0] 54) := ⟨_, rfl⟩
 rw [← hw1]
 have HB1 : Aside0 (Below w.heap.size w w1) := ⟨by rw [hw1]; exact below_alloc (Below.refl _ _) _⟩
 have HQ1 : Aside0 (w1.heap[rB]? = some (.cells #[.int .i64 0, .int .i64 0, .slice none 0 0, .slice none 0 0] 54 (0, 0))) := ⟨by rw [hw1, hrB]; exact heap_alloc_new _ _⟩
 have HRB := Aside0.mk hrB
 clear hw1 hrB
 refine (berylref20_blocks.calls A0 c0 l0 n w1 (Kd.C_below HR.out HB1.out) hc0 HN.out).mono ?_
 rintro e w' ⟨rfl, ⟨nd, rfl⟩⟩
 obtain ⟨w2, hw2⟩ : ∃ w2, w2 = w1.drewN nd := ⟨_, rfl⟩
 rw [← hw2]
 have HB2 : Aside0 (Below w.heap.size w w2) := ⟨by rw [hw2]; exact pw_below_drewN HB1.out nd⟩
 have HQ2 : Aside0 (w2.heap[rB]? = some (.cells #[.int .i64 0, .int .i64 0, .slice none 0 0, .slice none 0 0] 54 (0, 0))) := ⟨by rw [hw2]; exact HQ1.out⟩
 clear hw2 HB1 HQ1
 have hq := four_cells HQ2.out
 obtain ⟨k0, k1, k2, k3, f0, f1, f2, f3⟩ := hq
 go_wp2_with fail
 refine bodyPost_ret (results_ct rfl _ _ rB 54 #[.int .i64 0, .int .i64 0, .slice none 0 0, .slice none 0 0] (0, 0) _ rfl (blk_store4 HQ2.out _ _ _ _) Tryz.underlying54 rfl (by kernel_rfl)) rfl ?_
 exact ⟨_, _, rfl, Kd.R_nil _ _ _ _ _, Kd.S_nil _ _ _ _ _, below_store4 HB2.out (by rw [HRB.out]; exact Nat.le_refl _) _ _ _ _⟩
set_option maxRecDepth 100000 in
set_option maxHeartbeats 2000000 in
theorem ropen_a (A0 : Option Addr) (c0 : Nat) (l0 : List Int) (w : World) (hr0 : Kd.C (Kd.int .u8) w A0 l0.length l0) (hc0 : l0.length ≤ c0) {n : Int} (hn : berylref20_blocks.f l0 = some n) (h0 : ¬ n = 0) {p1 p2 : Int} {p3 : List Int} {p4 : List S40} {p5 : Bool} (hp : berylref20_head.f l0 0 = some (p1, p2, p3, p4, p5)) {q1 q2 : Int} {q3 : List Int} {q4 : List S40} {q5 : Bool} (hq : berylref20_head.f l0 1 = some (q1, q2, q3, q4, q5)) (h5 : q5 = false) :
  Calls Tryz.prog 26 #[.slice A0 l0.length c0] w fun e w' => ∃ v2_ v3_ : Value, e = .returned (.tuple #[.agg #[.int .i64 p1, .int .i64 p2, v2_, v3_], .bool p5]) ∧ Kd.R (Kd.int .i64) 3 w' w.heap.size (fun _ => True) v2_ p3 ∧ Kd.S k40 40 w' w.heap.size (fun _ => True) v3_ p4 ∧ Below w.heap.size w w' := by
 have HR := Aside0.mk hr0
 clear hr0
 have HN := Aside0.mk hn
 have HP := Aside0.mk hp
 have HP2 := Aside0.mk hq
 have d0 : (n == 0) = false := by rw [beq_eq_false_iff_ne]; exact h0
 subst h5
 clear hn h0 hp hq
 go_enter Tryz.func26, Tryz.ntmps26
 go_wp2_with fail
 obtain ⟨rB, hrB⟩ : ∃ rB, rB = w.heap.size := ⟨_, rfl⟩
 rw [← hrB]
 obtain ⟨w1, hw1⟩ : ∃ w1, w1 = w.alloc (Obj.cells #[Value.int IntKind.i64 0, Value.int IntKind.i64 0, Value.slice none 0 0, Value.slice none 0 0] 54) := ⟨_, rfl⟩
 rw [← hw1]
 have HB1 : Aside0 (Below w.heap.size w w1) := ⟨by rw [hw1]; exact below_alloc (Below.refl _ _) _⟩
 have HQ1 : Aside0 (w1.heap[rB]? = some (.cells #[.int .i64 0, .int .i64 0, .slice none 0 0, .slice none 0 0] 54 (0, 0))) := ⟨by rw [hw1, hrB]; exact heap_alloc_new _ _⟩
 have HRB := Aside0.mk hrB
 clear hw1 hrB
 refine (berylref20_blocks.calls A0 c0 l0 n w1 (Kd.C_below HR.out HB1.out) hc0 HN.out).mono ?_
 rintro e w' ⟨rfl, ⟨nd, rfl⟩⟩
 obtain ⟨w2, hw2⟩ : ∃ w2, w2 = w1.drewN nd := ⟨_, rfl⟩
 rw [← hw2]
 have HB2 : Aside0 (Below w.heap.size w w2) := ⟨by rw [hw2]; exact pw_below_drewN HB1.out nd⟩
 have HQ2 : Aside0 (w2.heap[rB]? = some (.cells #[.int .i64 0, .int .i64 0, .slice none 0 0, .slice none 0 0] 54 (0, 0))) := ⟨by rw [hw2]; exact HQ1.out⟩
 clear hw2 HB1 HQ1
 go_wp2_with fail
 refine (berylref20_head.calls A0 c0 l0 0 p1 p2 p3 p4 _ w2 (Kd.C_below HR.out HB2.out) hc0 HP.out).mono ?_
 rintro e w3 ⟨v2, v3, rfl, h2, h3, hB⟩
 obtain ⟨Aa, ca, rfl⟩ := Kd.R_slice h2
 obtain ⟨Ba, da, rfl⟩ := Kd.S_slice h3
 have HRa := Aside0.mk (Kd.R_lower h2 HB2.out.size)
 have HSa := Aside0.mk (Kd.S_lower h3 HB2.out.size)
 replace HQ2 := Aside0.mk (blk_below HQ2.out hB)
 replace HB2 : Aside0 (Below w.heap.size w w3) := ⟨HB2.out.trans (hB.mono HB2.out.size)⟩
 clear h2 h3 hB
 go_wp2_with ((with_reducible refine gate_dst (N := 4) rfl ?_); refine box_event ?hg (N := 4) ?hd (cs := #[.int .i64 0, .int .i64 0, .slice none 0 0, .slice none 0 0]) (t := 54) ?hr ?_; (case hd => rfl); (case hg => rfl); (case hr => first | (go_simp; done) | (go_simp; rfl)); intro ga hg wba hbox hbb; have BKa := Aside0.mk hbox; have HGa : Aside0 (w3.heap.size ≤ ga) := ⟨by rw [hg]; exact Nat.le_refl _⟩; have HBBa := Aside0.mk hbb; obtain ⟨hza0, hza1, hza2, hza3, hfa0, hfa1, hfa2, hfa3⟩ := four_cells BKa.out; clear hg hbox hbb)
 obtain ⟨w4, hw4⟩ : ∃ W, W = (((wba.setCell ⟨ga, 0, none⟩ (.int .i64 p1)).setCell ⟨ga, 1, none⟩ (.int .i64 p2)).setCell ⟨ga, 2, none⟩ (.slice Aa p3.length ca)).setCell ⟨ga, 3, none⟩ (.slice Ba p4.length da) := ⟨_, rfl⟩
 rw [← hw4]
 have hB : Below w3.heap.size w3 w4 := by rw [hw4]; exact below_store4 HBBa.out HGa.out _ _ _ _
 have HQa : Aside0 (w4.heap[ga]? = some (.cells #[.int .i64 p1, .int .i64 p2, .slice Aa p3.length ca, .slice Ba p4.length da] 54 (0, 0))) := ⟨by rw [hw4]; exact blk_store4 BKa.out _ _ _ _⟩
 replace HRa := Aside0.mk (Kd.R_below HRa.out hB)
 replace HSa := Aside0.mk (Kd.S_below HSa.out hB)
 replace HQ2 := Aside0.mk (blk_below HQ2.out hB)
 replace HB2 : Aside0 (Below w.heap.size w w4) := ⟨HB2.out.trans (hB.mono HB2.out.size)⟩
 clear hw4 hB hza0 hza1 hza2 hza3 hfa0 hfa1 hfa2 hfa3 HBBa HGa BKa
 refine (berylref20_head.calls A0 c0 l0 1 q1 q2 q3 q4 _ w4 (Kd.C_below HR.out HB2.out) hc0 HP2.out).mono ?_
 rintro e w5 ⟨v2, v3, rfl, h2, h3, hB⟩
 obtain ⟨Ab, cb, rfl⟩ := Kd.R_slice h2
 obtain ⟨Bb, db, rfl⟩ := Kd.S_slice h3
 have HRb := Aside0.mk (Kd.R_lower h2 HB2.out.size)
 have HSb := Aside0.mk (Kd.S_lower h3 HB2.out.size)
 replace HRa := Aside0.mk (Kd.R_below HRa.out hB)
 replace HSa := Aside0.mk (Kd.S_below HSa.out hB)
 replace HQ2 := Aside0.mk (blk_below HQ2.out hB)
 replace HQa := Aside0.mk (blk_below HQa.out hB)
 replace HB2 : Aside0 (Below w.heap.size w w5) := ⟨HB2.out.trans (hB.mono HB2.out.size)⟩
 clear h2 h3 hB
 go_upto_region 5 with ((with_reducible refine gate_dst (N := 6) rfl ?_); refine box_event ?hg (N := 6) ?hd (cs := #[.int .i64 0, .int .i64 0, .slice none 0 0, .slice none 0 0]) (t := 54) ?hr ?_; (case hd => rfl); (case hg => rfl); (case hr => first | (go_simp; done) | (go_simp; rfl)); intro gb hg wbb hbox hbb; have BKb := Aside0.mk hbox; have HGb : Aside0 (w5.heap.size ≤ gb) := ⟨by rw [hg]; exact Nat.le_refl _⟩; have HBBb := Aside0.mk hbb; obtain ⟨hzb0, hzb1, hzb2, hzb3, hfb0, hfb1, hfb2, hfb3⟩ := four_cells BKb.out; clear hg hbox hbb)
 obtain ⟨w6, hw4⟩ : ∃ W, W = (((wbb.setCell ⟨gb, 0, none⟩ (.int .i64 q1)).setCell ⟨gb, 1, none⟩ (.int .i64 q2)).setCell ⟨gb, 2, none⟩ (.slice Ab q3.length cb)).setCell ⟨gb, 3, none⟩ (.slice Bb q4.length db) := ⟨_, rfl⟩
 rw [← hw4]
 have hB : Below w5.heap.size w5 w6 := by rw [hw4]; exact below_store4 HBBb.out HGb.out _ _ _ _
 have HQb : Aside0 (w6.heap[gb]? = some (.cells #[.int .i64 q1, .int .i64 q2, .slice Ab q3.length cb, .slice Bb q4.length db] 54 (0, 0))) := ⟨by rw [hw4]; exact blk_store4 BKb.out _ _ _ _⟩
 replace HRa := Aside0.mk (Kd.R_below HRa.out hB)
 replace HSa := Aside0.mk (Kd.S_below HSa.out hB)
 replace HRb := Aside0.mk (Kd.R_below HRb.out hB)
 replace HSb := Aside0.mk (Kd.S_below HSb.out hB)
 replace HQ2 := Aside0.mk (blk_below HQ2.out hB)
 replace HQa := Aside0.mk (blk_below HQa.out hB)
 replace HB2 : Aside0 (Below w.heap.size w w6) := ⟨HB2.out.trans (hB.mono HB2.out.size)⟩
 clear hw4 hB hzb0 hzb1 hzb2 hzb3 hfb0 hfb1 hfb2 hfb3 HBBb HGb BKb
 obtain ⟨k0, k1, k2, k3, f0, f1, f2, f3⟩ := four_cells HQ2.out
 obtain ⟨ka0, ka1, ka2, ka3, fa0, fa1, fa2, fa3⟩ := four_cells HQa.out
 obtain ⟨kb0, kb1, kb2, kb3, fb0, fb1, fb2, fb3⟩ := four_cells HQb.out
 have hu54 := Tryz.underlying54
 go_wp2_with fail
 refine bodyPost_ret (results_ct rfl _ _ rB 54 #[.int .i64 p1, .int .i64 p2, .slice Aa p3.length ca, .slice Ba p4.length da] (0, 0) _ rfl (blk_store4 HQ2.out _ _ _ _) Tryz.underlying54 rfl (by kernel_rfl)) rfl ?_
 exact ⟨_, _, rfl, R_store4 HRa.out HQ2.out (by decide) _ _ _ _, S_store4 HSa.out HQ2.out (by decide) _ _ _ _, below_store4 HB2.out (by rw [HRB.out]; exact Nat.le_refl _) _ _ _ _⟩
set_option maxRecDepth 100000 in
set_option maxHeartbeats 2000000 in
theorem ropen_b1 (A0 : Option Addr) (c0 : Nat) (l0 : List Int) (w : World) (hr0 : Kd.C (Kd.int .u8) w A0 l0.length l0) (hc0 : l0.length ≤ c0) {n : Int} (hn : berylref20_blocks.f l0 = some n) (h0 : ¬ n = 0) {p1 p2 : Int} {p3 : List Int} {p4 : List S40} {p5 : Bool} (hp : berylref20_head.f l0 0 = some (p1, p2, p3, p4, p5)) {q1 q2 : Int} {q3 : List Int} {q4 : List S40} {q5 : Bool} (hq : berylref20_head.f l0 1 = some (q1, q2, q3, q4, q5)) (h5 : q5 = true) (g5 : p5 = false) :
  Calls Tryz.prog 26 #[.slice A0 l0.length c0] w fun e w' => ∃ v2_ v3_ : Value, e = .returned (.tuple #[.agg #[.int .i64 q1, .int .i64 q2, v2_, v3_], .bool true]) ∧ Kd.R (Kd.int .i64) 3 w' w.heap.size (fun _ => True) v2_ q3 ∧ Kd.S k40 40 w' w.heap.size (fun _ => True) v3_ q4 ∧ Below w.heap.size w w' := by
 have HR := Aside0.mk hr0
 clear hr0
 have HN := Aside0.mk hn
 have HP := Aside0.mk hp
 have HP2 := Aside0.mk hq
 have d0 : (n == 0) = false := by rw [beq_eq_false_iff_ne]; exact h0
 subst h5 g5
 clear hn h0 hp hq
 go_enter Tryz.func26, Tryz.ntmps26
 go_wp2_with fail
 obtain ⟨rB, hrB⟩ : ∃ rB, rB = w.heap.size := ⟨_, rfl⟩
 rw [← hrB]
 obtain ⟨w1, hw1⟩ : ∃ w1, w1 = w.alloc (Obj.cells #[Value.int IntKind.i64 0, Value.int IntKind.i64 0, Value.slice none 0 0, Value.slice none 0 0] 54) := ⟨_, rfl⟩
 rw [← hw1]
 have HB1 : Aside0 (Below w.heap.size w w1) := ⟨by rw [hw1]; exact below_alloc (Below.refl _ _) _⟩
 have HQ1 : Aside0 (w1.heap[rB]? = some (.cells #[.int .i64 0, .int .i64 0, .slice none 0 0, .slice none 0 0] 54 (0, 0))) := ⟨by rw [hw1, hrB]; exact heap_alloc_new _ _⟩
 have HRB := Aside0.mk hrB
 clear hw1 hrB
 refine (berylref20_blocks.calls A0 c0 l0 n w1 (Kd.C_below HR.out HB1.out) hc0 HN.out).mono ?_
 rintro e w' ⟨rfl, ⟨nd, rfl⟩⟩
 obtain ⟨w2, hw2⟩ : ∃ w2, w2 = w1.drewN nd := ⟨_, rfl⟩
 rw [← hw2]
 have HB2 : Aside0 (Below w.heap.size w w2) := ⟨by rw [hw2]; exact pw_below_drewN HB1.out nd⟩
 have HQ2 : Aside0 (w2.heap[rB]? = some (.cells #[.int .i64 0, .int .i64 0, .slice none 0 0, .slice none 0 0] 54 (0, 0))) := ⟨by rw [hw2]; exact HQ1.out⟩
 clear hw2 HB1 HQ1
 go_wp2_with fail
 refine (berylref20_head.calls A0 c0 l0 0 p1 p2 p3 p4 _ w2 (Kd.C_below HR.out HB2.out) hc0 HP.out).mono ?_
 rintro e w3 ⟨v2, v3, rfl, h2, h3, hB⟩
 obtain ⟨Aa, ca, rfl⟩ := Kd.R_slice h2
 obtain ⟨Ba, da, rfl⟩ := Kd.S_slice h3
 have HRa := Aside0.mk (Kd.R_lower h2 HB2.out.size)
 have HSa := Aside0.mk (Kd.S_lower h3 HB2.out.size)
 replace HQ2 := Aside0.mk (blk_below HQ2.out hB)
 replace HB2 : Aside0 (Below w.heap.size w w3) := ⟨HB2.out.trans (hB.mono HB2.out.size)⟩
 clear h2 h3 hB
 go_wp2_with ((with_reducible refine gate_dst (N := 4) rfl ?_); refine box_event ?hg (N := 4) ?hd (cs := #[.int .i64 0, .int .i64 0, .slice none 0 0, .slice none 0 0]) (t := 54) ?hr ?_; (case hd => rfl); (case hg => rfl); (case hr => first | (go_simp; done) | (go_simp; rfl)); intro ga hg wba hbox hbb; have BKa := Aside0.mk hbox; have HGa : Aside0 (w3.heap.size ≤ ga) := ⟨by rw [hg]; exact Nat.le_refl _⟩; have HBBa := Aside0.mk hbb; obtain ⟨hza0, hza1, hza2, hza3, hfa0, hfa1, hfa2, hfa3⟩ := four_cells BKa.out; clear hg hbox hbb)
 obtain ⟨w4, hw4⟩ : ∃ W, W = (((wba.setCell ⟨ga, 0, none⟩ (.int .i64 p1)).setCell ⟨ga, 1, none⟩ (.int .i64 p2)).setCell ⟨ga, 2, none⟩ (.slice Aa p3.length ca)).setCell ⟨ga, 3, none⟩ (.slice Ba p4.length da) := ⟨_, rfl⟩
 rw [← hw4]
 have hB : Below w3.heap.size w3 w4 := by rw [hw4]; exact below_store4 HBBa.out HGa.out _ _ _ _
 have HQa : Aside0 (w4.heap[ga]? = some (.cells #[.int .i64 p1, .int .i64 p2, .slice Aa p3.length ca, .slice Ba p4.length da] 54 (0, 0))) := ⟨by rw [hw4]; exact blk_store4 BKa.out _ _ _ _⟩
 replace HRa := Aside0.mk (Kd.R_below HRa.out hB)
 replace HSa := Aside0.mk (Kd.S_below HSa.out hB)
 replace HQ2 := Aside0.mk (blk_below HQ2.out hB)
 replace HB2 : Aside0 (Below w.heap.size w w4) := ⟨HB2.out.trans (hB.mono HB2.out.size)⟩
 clear hw4 hB hza0 hza1 hza2 hza3 hfa0 hfa1 hfa2 hfa3 HBBa HGa BKa
 refine (berylref20_head.calls A0 c0 l0 1 q1 q2 q3 q4 _ w4 (Kd.C_below HR.out HB2.out) hc0 HP2.out).mono ?_
 rintro e w5 ⟨v2, v3, rfl, h2, h3, hB⟩
 obtain ⟨Ab, cb, rfl⟩ := Kd.R_slice h2
 obtain ⟨Bb, db, rfl⟩ := Kd.S_slice h3
 have HRb := Aside0.mk (Kd.R_lower h2 HB2.out.size)
 have HSb := Aside0.mk (Kd.S_lower h3 HB2.out.size)
 replace HRa := Aside0.mk (Kd.R_below HRa.out hB)
 replace HSa := Aside0.mk (Kd.S_below HSa.out hB)
 replace HQ2 := Aside0.mk (blk_below HQ2.out hB)
 replace HQa := Aside0.mk (blk_below HQa.out hB)
 replace HB2 : Aside0 (Below w.heap.size w w5) := ⟨HB2.out.trans (hB.mono HB2.out.size)⟩
 clear h2 h3 hB
 go_upto_region 5 with ((with_reducible refine gate_dst (N := 6) rfl ?_); refine box_event ?hg (N := 6) ?hd (cs := #[.int .i64 0, .int .i64 0, .slice none 0 0, .slice none 0 0]) (t := 54) ?hr ?_; (case hd => rfl); (case hg => rfl); (case hr => first | (go_simp; done) | (go_simp; rfl)); intro gb hg wbb hbox hbb; have BKb := Aside0.mk hbox; have HGb : Aside0 (w5.heap.size ≤ gb) := ⟨by rw [hg]; exact Nat.le_refl _⟩; have HBBb := Aside0.mk hbb; obtain ⟨hzb0, hzb1, hzb2, hzb3, hfb0, hfb1, hfb2, hfb3⟩ := four_cells BKb.out; clear hg hbox hbb)
 obtain ⟨w6, hw4⟩ : ∃ W, W = (((wbb.setCell ⟨gb, 0, none⟩ (.int .i64 q1)).setCell ⟨gb, 1, none⟩ (.int .i64 q2)).setCell ⟨gb, 2, none⟩ (.slice Ab q3.length cb)).setCell ⟨gb, 3, none⟩ (.slice Bb q4.length db) := ⟨_, rfl⟩
 rw [← hw4]
 have hB : Below w5.heap.size w5 w6 := by rw [hw4]; exact below_store4 HBBb.out HGb.out _ _ _ _
 have HQb : Aside0 (w6.heap[gb]? = some (.cells #[.int .i64 q1, .int .i64 q2, .slice Ab q3.length cb, .slice Bb q4.length db] 54 (0, 0))) := ⟨by rw [hw4]; exact blk_store4 BKb.out _ _ _ _⟩
 replace HRa := Aside0.mk (Kd.R_below HRa.out hB)
 replace HSa := Aside0.mk (Kd.S_below HSa.out hB)
 replace HRb := Aside0.mk (Kd.R_below HRb.out hB)
 replace HSb := Aside0.mk (Kd.S_below HSb.out hB)
 replace HQ2 := Aside0.mk (blk_below HQ2.out hB)
 replace HQa := Aside0.mk (blk_below HQa.out hB)
 replace HB2 : Aside0 (Below w.heap.size w w6) := ⟨HB2.out.trans (hB.mono HB2.out.size)⟩
 clear hw4 hB hzb0 hzb1 hzb2 hzb3 hfb0 hfb1 hfb2 hfb3 HBBb HGb BKb
 obtain ⟨k0, k1, k2, k3, f0, f1, f2, f3⟩ := four_cells HQ2.out
 obtain ⟨ka0, ka1, ka2, ka3, fa0, fa1, fa2, fa3⟩ := four_cells HQa.out
 obtain ⟨kb0, kb1, kb2, kb3, fb0, fb1, fb2, fb3⟩ := four_cells HQb.out
 have hu54 := Tryz.underlying54
 go_wp2_with fail
 refine bodyPost_ret (results_ct rfl _ _ rB 54 #[.int .i64 q1, .int .i64 q2, .slice Ab q3.length cb, .slice Bb q4.length db] (0, 0) _ rfl (blk_store4 HQ2.out _ _ _ _) Tryz.underlying54 rfl (by kernel_rfl)) rfl ?_
 exact ⟨_, _, rfl, R_store4 HRb.out HQ2.out (by decide) _ _ _ _, S_store4 HSb.out HQ2.out (by decide) _ _ _ _, below_store4 HB2.out (by rw [HRB.out]; exact Nat.le_refl _) _ _ _ _⟩
set_option maxRecDepth 100000 in
set_option maxHeartbeats 2000000 in
theorem ropen_b2 (A0 : Option Addr) (c0 : Nat) (l0 : List Int) (w : World) (hr0 : Kd.C (Kd.int .u8) w A0 l0.length l0) (hc0 : l0.length ≤ c0) {n : Int} (hn : berylref20_blocks.f l0 = some n) (h0 : ¬ n = 0) {p1 p2 : Int} {p3 : List Int} {p4 : List S40} {p5 : Bool} (hp : berylref20_head.f l0 0 = some (p1, p2, p3, p4, p5)) {q1 q2 : Int} {q3 : List Int} {q4 : List S40} {q5 : Bool} (hq : berylref20_head.f l0 1 = some (q1, q2, q3, q4, q5)) (h5 : q5 = true) (g5 : p5 = true) (hv : q2 > p2) :
  Calls Tryz.prog 26 #[.slice A0 l0.length c0] w fun e w' => ∃ v2_ v3_ : Value, e = .returned (.tuple #[.agg #[.int .i64 q1, .int .i64 q2, v2_, v3_], .bool true]) ∧ Kd.R (Kd.int .i64) 3 w' w.heap.size (fun _ => True) v2_ q3 ∧ Kd.S k40 40 w' w.heap.size (fun _ => True) v3_ q4 ∧ Below w.heap.size w w' := by
 have HR := Aside0.mk hr0
 clear hr0
 have HN := Aside0.mk hn
 have HP := Aside0.mk hp
 have HP2 := Aside0.mk hq
 have d0 : (n == 0) = false := by rw [beq_eq_false_iff_ne]; exact h0
 subst h5 g5
 have dv : decide (p2 < q2) = true := decide_eq_true hv
 clear hv
 clear hn h0 hp hq
 go_enter Tryz.func26, Tryz.ntmps26
 go_wp2_with fail
 obtain ⟨rB, hrB⟩ : ∃ rB, rB = w.heap.size := ⟨_, rfl⟩
 rw [← hrB]
 obtain ⟨w1, hw1⟩ : ∃ w1, w1 = w.alloc (Obj.cells #[Value.int IntKind.i64 0, Value.int IntKind.i64 0, Value.slice none 0 0, Value.slice none 0 0] 54) := ⟨_, rfl⟩
 rw [← hw1]
 have HB1 : Aside0 (Below w.heap.size w w1) := ⟨by rw [hw1]; exact below_alloc (Below.refl _ _) _⟩
 have HQ1 : Aside0 (w1.heap[rB]? = some (.cells #[.int .i64 0, .int .i64 0, .slice none 0 0, .slice none 0 0] 54 (0, 0))) := ⟨by rw [hw1, hrB]; exact heap_alloc_new _ _⟩
 have HRB := Aside0.mk hrB
 clear hw1 hrB
 refine (berylref20_blocks.calls A0 c0 l0 n w1 (Kd.C_below HR.out HB1.out) hc0 HN.out).mono ?_
 rintro e w' ⟨rfl, ⟨nd, rfl⟩⟩
 obtain ⟨w2, hw2⟩ : ∃ w2, w2 = w1.drewN nd := ⟨_, rfl⟩
 rw [← hw2]
 have HB2 : Aside0 (Below w.heap.size w w2) := ⟨by rw [hw2]; exact pw_below_drewN HB1.out nd⟩
 have HQ2 : Aside0 (w2.heap[rB]? = some (.cells #[.int .i64 0, .int .i64 0, .slice none 0 0, .slice none 0 0] 54 (0, 0))) := ⟨by rw [hw2]; exact HQ1.out⟩
 clear hw2 HB1 HQ1
 go_wp2_with fail
 refine (berylref20_head.calls A0 c0 l0 0 p1 p2 p3 p4 _ w2 (Kd.C_below HR.out HB2.out) hc0 HP.out).mono ?_
 rintro e w3 ⟨v2, v3, rfl, h2, h3, hB⟩
 obtain ⟨Aa, ca, rfl⟩ := Kd.R_slice h2
 obtain ⟨Ba, da, rfl⟩ := Kd.S_slice h3
 have HRa := Aside0.mk (Kd.R_lower h2 HB2.out.size)
 have HSa := Aside0.mk (Kd.S_lower h3 HB2.out.size)
 replace HQ2 := Aside0.mk (blk_below HQ2.out hB)
 replace HB2 : Aside0 (Below w.heap.size w w3) := ⟨HB2.out.trans (hB.mono HB2.out.size)⟩
 clear h2 h3 hB
 go_wp2_with ((with_reducible refine gate_dst (N := 4) rfl ?_); refine box_event ?hg (N := 4) ?hd (cs := #[.int .i64 0, .int .i64 0, .slice none 0 0, .slice none 0 0]) (t := 54) ?hr ?_; (case hd => rfl); (case hg => rfl); (case hr => first | (go_simp; done) | (go_simp; rfl)); intro ga hg wba hbox hbb; have BKa := Aside0.mk hbox; have HGa : Aside0 (w3.heap.size ≤ ga) := ⟨by rw [hg]; exact Nat.le_refl _⟩; have HBBa := Aside0.mk hbb; obtain ⟨hza0, hza1, hza2, hza3, hfa0, hfa1, hfa2, hfa3⟩ := four_cells BKa.out; clear hg hbox hbb)
 obtain ⟨w4, hw4⟩ : ∃ W, W = (((wba.setCell ⟨ga, 0, none⟩ (.int .i64 p1)).setCell ⟨ga, 1, none⟩ (.int .i64 p2)).setCell ⟨ga, 2, none⟩ (.slice Aa p3.length ca)).setCell ⟨ga, 3, none⟩ (.slice Ba p4.length da) := ⟨_, rfl⟩
 rw [← hw4]
 have hB : Below w3.heap.size w3 w4 := by rw [hw4]; exact below_store4 HBBa.out HGa.out _ _ _ _
 have HQa : Aside0 (w4.heap[ga]? = some (.cells #[.int .i64 p1, .int .i64 p2, .slice Aa p3.length ca, .slice Ba p4.length da] 54 (0, 0))) := ⟨by rw [hw4]; exact blk_store4 BKa.out _ _ _ _⟩
 replace HRa := Aside0.mk (Kd.R_below HRa.out hB)
 replace HSa := Aside0.mk (Kd.S_below HSa.out hB)
 replace HQ2 := Aside0.mk (blk_below HQ2.out hB)
 replace HB2 : Aside0 (Below w.heap.size w w4) := ⟨HB2.out.trans (hB.mono HB2.out.size)⟩
 clear hw4 hB hza0 hza1 hza2 hza3 hfa0 hfa1 hfa2 hfa3 HBBa HGa BKa
 refine (berylref20_head.calls A0 c0 l0 1 q1 q2 q3 q4 _ w4 (Kd.C_below HR.out HB2.out) hc0 HP2.out).mono ?_
 rintro e w5 ⟨v2, v3, rfl, h2, h3, hB⟩
 obtain ⟨Ab, cb, rfl⟩ := Kd.R_slice h2
 obtain ⟨Bb, db, rfl⟩ := Kd.S_slice h3
 have HRb := Aside0.mk (Kd.R_lower h2 HB2.out.size)
 have HSb := Aside0.mk (Kd.S_lower h3 HB2.out.size)
 replace HRa := Aside0.mk (Kd.R_below HRa.out hB)
 replace HSa := Aside0.mk (Kd.S_below HSa.out hB)
 replace HQ2 := Aside0.mk (blk_below HQ2.out hB)
 replace HQa := Aside0.mk (blk_below HQa.out hB)
 replace HB2 : Aside0 (Below w.heap.size w w5) := ⟨HB2.out.trans (hB.mono HB2.out.size)⟩
 clear h2 h3 hB
 go_upto_region 5 with ((with_reducible refine gate_dst (N := 6) rfl ?_); refine box_event ?hg (N := 6) ?hd (cs := #[.int .i64 0, .int .i64 0, .slice none 0 0, .slice none 0 0]) (t := 54) ?hr ?_; (case hd => rfl); (case hg => rfl); (case hr => first | (go_simp; done) | (go_simp; rfl)); intro gb hg wbb hbox hbb; have BKb := Aside0.mk hbox; have HGb : Aside0 (w5.heap.size ≤ gb) := ⟨by rw [hg]; exact Nat.le_refl _⟩; have HBBb := Aside0.mk hbb; obtain ⟨hzb0, hzb1, hzb2, hzb3, hfb0, hfb1, hfb2, hfb3⟩ := four_cells BKb.out; clear hg hbox hbb)
 obtain ⟨w6, hw4⟩ : ∃ W, W = (((wbb.setCell ⟨gb, 0, none⟩ (.int .i64 q1)).setCell ⟨gb, 1, none⟩ (.int .i64 q2)).setCell ⟨gb, 2, none⟩ (.slice Ab q3.length cb)).setCell ⟨gb, 3, none⟩ (.slice Bb q4.length db) := ⟨_, rfl⟩
 rw [← hw4]
 have hB : Below w5.heap.size w5 w6 := by rw [hw4]; exact below_store4 HBBb.out HGb.out _ _ _ _
 have HQb : Aside0 (w6.heap[gb]? = some (.cells #[.int .i64 q1, .int .i64 q2, .slice Ab q3.length cb, .slice Bb q4.length db] 54 (0, 0))) := ⟨by rw [hw4]; exact blk_store4 BKb.out _ _ _ _⟩
 replace HRa := Aside0.mk (Kd.R_below HRa.out hB)
 replace HSa := Aside0.mk (Kd.S_below HSa.out hB)
 replace HRb := Aside0.mk (Kd.R_below HRb.out hB)
 replace HSb := Aside0.mk (Kd.S_below HSb.out hB)
 replace HQ2 := Aside0.mk (blk_below HQ2.out hB)
 replace HQa := Aside0.mk (blk_below HQa.out hB)
 replace HB2 : Aside0 (Below w.heap.size w w6) := ⟨HB2.out.trans (hB.mono HB2.out.size)⟩
 clear hw4 hB hzb0 hzb1 hzb2 hzb3 hfb0 hfb1 hfb2 hfb3 HBBb HGb BKb
 obtain ⟨k0, k1, k2, k3, f0, f1, f2, f3⟩ := four_cells HQ2.out
 obtain ⟨ka0, ka1, ka2, ka3, fa0, fa1, fa2, fa3⟩ := four_cells HQa.out
 obtain ⟨kb0, kb1, kb2, kb3, fb0, fb1, fb2, fb3⟩ := four_cells HQb.out
 have hu54 := Tryz.underlying54
 go_wp2_with fail
 refine bodyPost_ret (results_ct rfl _ _ rB 54 #[.int .i64 q1, .int .i64 q2, .slice Ab q3.length cb, .slice Bb q4.length db] (0, 0) _ rfl (blk_store4 HQ2.out _ _ _ _) Tryz.underlying54 rfl (by kernel_rfl)) rfl ?_
 exact ⟨_, _, rfl, R_store4 HRb.out HQ2.out (by decide) _ _ _ _, S_store4 HSb.out HQ2.out (by decide) _ _ _ _, below_store4 HB2.out (by rw [HRB.out]; exact Nat.le_refl _) _ _ _ _⟩
set_option maxRecDepth 100000 in
set_option maxHeartbeats 2000000 in
theorem ropen_a2 (A0 : Option Addr) (c0 : Nat) (l0 : List Int) (w : World) (hr0 : Kd.C (Kd.int .u8) w A0 l0.length l0) (hc0 : l0.length ≤ c0) {n : Int} (hn : berylref20_blocks.f l0 = some n) (h0 : ¬ n = 0) {p1 p2 : Int} {p3 : List Int} {p4 : List S40} {p5 : Bool} (hp : berylref20_head.f l0 0 = some (p1, p2, p3, p4, p5)) {q1 q2 : Int} {q3 : List Int} {q4 : List S40} {q5 : Bool} (hq : berylref20_head.f l0 1 = some (q1, q2, q3, q4, q5)) (h5 : q5 = true) (g5 : p5 = true) (hv : ¬ q2 > p2) :
  Calls Tryz.prog 26 #[.slice A0 l0.length c0] w fun e w' => ∃ v2_ v3_ : Value, e = .returned (.tuple #[.agg #[.int .i64 p1, .int .i64 p2, v2_, v3_], .bool true]) ∧ Kd.R (Kd.int .i64) 3 w' w.heap.size (fun _ => True) v2_ p3 ∧ Kd.S k40 40 w' w.heap.size (fun _ => True) v3_ p4 ∧ Below w.heap.size w w' := by
 have HR := Aside0.mk hr0
 clear hr0
 have HN := Aside0.mk hn
 have HP := Aside0.mk hp
 have HP2 := Aside0.mk hq
 have d0 : (n == 0) = false := by rw [beq_eq_false_iff_ne]; exact h0
 subst h5 g5
 have dv : decide (p2 < q2) = false := decide_eq_false hv
 clear hv
 clear hn h0 hp hq
 go_enter Tryz.func26, Tryz.ntmps26
 go_wp2_with fail
 obtain ⟨rB, hrB⟩ : ∃ rB, rB = w.heap.size := ⟨_, rfl⟩
 rw [← hrB]
 obtain ⟨w1, hw1⟩ : ∃ w1, w1 = w.alloc (Obj.cells #[Value.int IntKind.i64 0, Value.int IntKind.i64 0, Value.slice none 0 0, Value.slice none 0 0] 54) := ⟨_, rfl⟩
 rw [← hw1]
 have HB1 : Aside0 (Below w.heap.size w w1) := ⟨by rw [hw1]; exact below_alloc (Below.refl _ _) _⟩
 have HQ1 : Aside0 (w1.heap[rB]? = some (.cells #[.int .i64 0, .int .i64 0, .slice none 0 0, .slice none 0 0] 54 (0, 0))) := ⟨by rw [hw1, hrB]; exact heap_alloc_new _ _⟩
 have HRB := Aside0.mk hrB
 clear hw1 hrB
 refine (berylref20_blocks.calls A0 c0 l0 n w1 (Kd.C_below HR.out HB1.out) hc0 HN.out).mono ?_
 rintro e w' ⟨rfl, ⟨nd, rfl⟩⟩
 obtain ⟨w2, hw2⟩ : ∃ w2, w2 = w1.drewN nd := ⟨_, rfl⟩
 rw [← hw2]
 have HB2 : Aside0 (Below w.heap.size w w2) := ⟨by rw [hw2]; exact pw_below_drewN HB1.out nd⟩
 have HQ2 : Aside0 (w2.heap[rB]? = some (.cells #[.int .i64 0, .int .i64 0, .slice none 0 0, .slice none 0 0] 54 (0, 0))) := ⟨by rw [hw2]; exact HQ1.out⟩
 clear hw2 HB1 HQ1
 go_wp2_with fail
 refine (berylref20_head.calls A0 c0 l0 0 p1 p2 p3 p4 _ w2 (Kd.C_below HR.out HB2.out) hc0 HP.out).mono ?_
 rintro e w3 ⟨v2, v3, rfl, h2, h3, hB⟩
 obtain ⟨Aa, ca, rfl⟩ := Kd.R_slice h2
 obtain ⟨Ba, da, rfl⟩ := Kd.S_slice h3
 have HRa := Aside0.mk (Kd.R_lower h2 HB2.out.size)
 have HSa := Aside0.mk (Kd.S_lower h3 HB2.out.size)
 replace HQ2 := Aside0.mk (blk_below HQ2.out hB)
 replace HB2 : Aside0 (Below w.heap.size w w3) := ⟨HB2.out.trans (hB.mono HB2.out.size)⟩
 clear h2 h3 hB
 go_wp2_with ((with_reducible refine gate_dst (N := 4) rfl ?_); refine box_event ?hg (N := 4) ?hd (cs := #[.int .i64 0, .int .i64 0, .slice none 0 0, .slice none 0 0]) (t := 54) ?hr ?_; (case hd => rfl); (case hg => rfl); (case hr => first | (go_simp; done) | (go_simp; rfl)); intro ga hg wba hbox hbb; have BKa := Aside0.mk hbox; have HGa : Aside0 (w3.heap.size ≤ ga) := ⟨by rw [hg]; exact Nat.le_refl _⟩; have HBBa := Aside0.mk hbb; obtain ⟨hza0, hza1, hza2, hza3, hfa0, hfa1, hfa2, hfa3⟩ := four_cells BKa.out; clear hg hbox hbb)
 obtain ⟨w4, hw4⟩ : ∃ W, W = (((wba.setCell ⟨ga, 0, none⟩ (.int .i64 p1)).setCell ⟨ga, 1, none⟩ (.int .i64 p2)).setCell ⟨ga, 2, none⟩ (.slice Aa p3.length ca)).setCell ⟨ga, 3, none⟩ (.slice Ba p4.length da) := ⟨_, rfl⟩
 rw [← hw4]
 have hB : Below w3.heap.size w3 w4 := by rw [hw4]; exact below_store4 HBBa.out HGa.out _ _ _ _
 have HQa : Aside0 (w4.heap[ga]? = some (.cells #[.int .i64 p1, .int .i64 p2, .slice Aa p3.length ca, .slice Ba p4.length da] 54 (0, 0))) := ⟨by rw [hw4]; exact blk_store4 BKa.out _ _ _ _⟩
 replace HRa := Aside0.mk (Kd.R_below HRa.out hB)
 replace HSa := Aside0.mk (Kd.S_below HSa.out hB)
 replace HQ2 := Aside0.mk (blk_below HQ2.out hB)
 replace HB2 : Aside0 (Below w.heap.size w w4) := ⟨HB2.out.trans (hB.mono HB2.out.size)⟩
 clear hw4 hB hza0 hza1 hza2 hza3 hfa0 hfa1 hfa2 hfa3 HBBa HGa BKa
 refine (berylref20_head.calls A0 c0 l0 1 q1 q2 q3 q4 _ w4 (Kd.C_below HR.out HB2.out) hc0 HP2.out).mono ?_
 rintro e w5 ⟨v2, v3, rfl, h2, h3, hB⟩
 obtain ⟨Ab, cb, rfl⟩ := Kd.R_slice h2
 obtain ⟨Bb, db, rfl⟩ := Kd.S_slice h3
 have HRb := Aside0.mk (Kd.R_lower h2 HB2.out.size)
 have HSb := Aside0.mk (Kd.S_lower h3 HB2.out.size)
 replace HRa := Aside0.mk (Kd.R_below HRa.out hB)
 replace HSa := Aside0.mk (Kd.S_below HSa.out hB)
 replace HQ2 := Aside0.mk (blk_below HQ2.out hB)
 replace HQa := Aside0.mk (blk_below HQa.out hB)
 replace HB2 : Aside0 (Below w.heap.size w w5) := ⟨HB2.out.trans (hB.mono HB2.out.size)⟩
 clear h2 h3 hB
 go_upto_region 5 with ((with_reducible refine gate_dst (N := 6) rfl ?_); refine box_event ?hg (N := 6) ?hd (cs := #[.int .i64 0, .int .i64 0, .slice none 0 0, .slice none 0 0]) (t := 54) ?hr ?_; (case hd => rfl); (case hg => rfl); (case hr => first | (go_simp; done) | (go_simp; rfl)); intro gb hg wbb hbox hbb; have BKb := Aside0.mk hbox; have HGb : Aside0 (w5.heap.size ≤ gb) := ⟨by rw [hg]; exact Nat.le_refl _⟩; have HBBb := Aside0.mk hbb; obtain ⟨hzb0, hzb1, hzb2, hzb3, hfb0, hfb1, hfb2, hfb3⟩ := four_cells BKb.out; clear hg hbox hbb)
 obtain ⟨w6, hw4⟩ : ∃ W, W = (((wbb.setCell ⟨gb, 0, none⟩ (.int .i64 q1)).setCell ⟨gb, 1, none⟩ (.int .i64 q2)).setCell ⟨gb, 2, none⟩ (.slice Ab q3.length cb)).setCell ⟨gb, 3, none⟩ (.slice Bb q4.length db) := ⟨_, rfl⟩
 rw [← hw4]
 have hB : Below w5.heap.size w5 w6 := by rw [hw4]; exact below_store4 HBBb.out HGb.out _ _ _ _
 have HQb : Aside0 (w6.heap[gb]? = some (.cells #[.int .i64 q1, .int .i64 q2, .slice Ab q3.length cb, .slice Bb q4.length db] 54 (0, 0))) := ⟨by rw [hw4]; exact blk_store4 BKb.out _ _ _ _⟩
 replace HRa := Aside0.mk (Kd.R_below HRa.out hB)
 replace HSa := Aside0.mk (Kd.S_below HSa.out hB)
 replace HRb := Aside0.mk (Kd.R_below HRb.out hB)
 replace HSb := Aside0.mk (Kd.S_below HSb.out hB)
 replace HQ2 := Aside0.mk (blk_below HQ2.out hB)
 replace HQa := Aside0.mk (blk_below HQa.out hB)
 replace HB2 : Aside0 (Below w.heap.size w w6) := ⟨HB2.out.trans (hB.mono HB2.out.size)⟩
 clear hw4 hB hzb0 hzb1 hzb2 hzb3 hfb0 hfb1 hfb2 hfb3 HBBb HGb BKb
 obtain ⟨k0, k1, k2, k3, f0, f1, f2, f3⟩ := four_cells HQ2.out
 obtain ⟨ka0, ka1, ka2, ka3, fa0, fa1, fa2, fa3⟩ := four_cells HQa.out
 obtain ⟨kb0, kb1, kb2, kb3, fb0, fb1, fb2, fb3⟩ := four_cells HQb.out
 have hu54 := Tryz.underlying54
 go_wp2_with fail
 refine bodyPost_ret (results_ct rfl _ _ rB 54 #[.int .i64 p1, .int .i64 p2, .slice Aa p3.length ca, .slice Ba p4.length da] (0, 0) _ rfl (blk_store4 HQ2.out _ _ _ _) Tryz.underlying54 rfl (by kernel_rfl)) rfl ?_
 exact ⟨_, _, rfl, R_store4 HRa.out HQ2.out (by decide) _ _ _ _, S_store4 HSa.out HQ2.out (by decide) _ _ _ _, below_store4 HB2.out (by rw [HRB.out]; exact Nat.le_refl _) _ _ _ _⟩
theorem berylref20_open.calls (A0 : Option Addr) (c0 : Nat) (l0 : List Int) (r1 r2 : Int) (r3 : List Int) (r4 : List S40) (r5 : Bool) (w : World) (hr0 : Kd.C (Kd.int .u8) w A0 l0.length l0) (hc0 : l0.length ≤ c0) (h : berylref20_open.f l0 = some (r1, r2, r3, r4, r5)) :
  Calls Tryz.prog 26 #[.slice A0 l0.length c0] w fun e w' => ∃ v2_ v3_ : Value, e = .returned (.tuple #[.agg #[.int .i64 r1, .int .i64 r2, v2_, v3_], .bool r5]) ∧ Kd.R (Kd.int .i64) 3 w' w.heap.size (fun _ => True) v2_ r3 ∧ Kd.S k40 40 w' w.heap.size (fun _ => True) v3_ r4 ∧ Below w.heap.size w w' := by
 unfold berylref20_open.f at h
 obtain ⟨n, hn, h⟩ := Option.bind_eq_some_iff.1 h
 by_cases h0 : n = 0
 ·rw [if_pos h0] at h
  cases h
  exact ropen_none A0 c0 l0 w hr0 hc0 hn h0
 rw [if_neg h0] at h
 obtain ⟨⟨p1, p2, p3, p4, p5⟩, hp, h⟩ := Option.bind_eq_some_iff.1 h
 obtain ⟨⟨q1, q2, q3, q4, q5⟩, hq, h⟩ := Option.bind_eq_some_iff.1 h
 dsimp only at h
 by_cases h5 : q5 = true
 ·rw [if_pos h5] at h
  by_cases g5 : p5 = true
  ·rw [if_pos g5] at h
   by_cases hv : q2 > p2
   ·rw [if_pos hv] at h
    cases h
    exact ropen_b2 A0 c0 l0 w hr0 hc0 hn h0 hp hq h5 g5 hv
   ·rw [if_neg hv] at h
    cases h
    have := ropen_a2 A0 c0 l0 w hr0 hc0 hn h0 hp hq h5 g5 hv
    rw [g5]
    exact this
  ·rw [if_neg g5] at h
   cases h
   exact ropen_b1 A0 c0 l0 w hr0 hc0 hn h0 hp hq h5 (by simpa using g5)
 ·rw [if_neg h5] at h
  cases h
  exact ropen_a A0 c0 l0 w hr0 hc0 hn h0 hp hq (by simpa using h5)
end Go.Proofs.YtcdpkdehogcjnaaGreat.Print
