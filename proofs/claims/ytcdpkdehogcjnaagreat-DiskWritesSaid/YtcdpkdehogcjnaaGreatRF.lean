/- Saving, dropping and merging records; what was written is read again; records without some numbers: contracts and plain facts, whatever the input. -/
import Derived.Test.YtcdpkdehogcjnaaGreatRD
import Derived.Test.YtcdpkdehogcjnaaGreatRB
import Derived.Test.YtcdpkdehogcjnaaGreatR3
import Derived.Test.YtcdpkdehogcjnaaGreatR4
import Derived.Test.YtcdpkdehogcjnaaGreatRE
import Derived.Test.YtcdpkdehogcjnaaGreatRC
import Derived.BigQuiet
import Derived.Deep.QuietTactic
set_option linter.unusedVariables false
set_option linter.unusedSimpArgs false
namespace Go.Proofs.YtcdpkdehogcjnaaGreat.Print
open Go Go.RowKit Go.Proofs.YtcdpkdehogcjnaaGreatW.PrintWords Go.Proofs.YtcdpkdehogcjnaaGreatW.PrintLast Go.Proofs.YtcdpkdehogcjnaaGreatW.PrintMore
def totN : List S40 → Nat
 | [] => 0
 | r :: l => r.f1.length + totN l
theorem tot_step (l : List S40) (i : Nat) (h : i < l.length) : totN (l.drop i) = l[i].f1.length + totN (l.drop (i + 1)) := by
 rw [List.drop_eq_getElem_cons h, totN]
theorem recs_len : ∀ l : List S40, (recsB l).length = 10 * l.length + totN l
 | [] => rfl
 | r :: l => by
  rw [recsB_cons, List.length_append, recB_len, recs_len l, totN, List.length_cons]
  omega
theorem tot_le {l : List S40} {B : Nat} (h : ∀ x ∈ l, x.f1.length ≤ B) : totN l ≤ l.length * B := by
 induction l with
 | nil => simp [totN]
 | cons r l ih =>
  have h1 := h r (List.mem_cons_self ..)
  have h2 := ih (fun x hx => h x (List.mem_cons_of_mem _ hx))
  rw [totN, List.length_cons, Nat.add_mul]
  omega
theorem few_far (xs : List Int) (l : List S40) (hl : l.length ≤ 4398046511104) (h3 : 300 < l.length) : ∀ (m i k : Nat) (acc : Int), i + m = l.length → m < k → beryllaw20_few.l0 k xs l acc (i : Int) = some false := by
 intro m
 induction m with
 | zero =>
  intro i k acc hi hk
  obtain ⟨k, rfl⟩ : ∃ j, k = j + 1 := ⟨k - 1, by omega⟩
  rw [beryllaw20_few.l0, if_neg (by omega)]
  split
  ·rw [if_neg (by omega)]
  ·rfl
 | succ m ih =>
  intro i k acc hi hk
  obtain ⟨k, rfl⟩ : ∃ j, k = j + 1 := ⟨k - 1, by omega⟩
  have e2 : wrap64 ((i : Int) + 1) = ((i + 1 : Nat) : Int) := by unfold wrap64; omega
  rw [beryllaw20_few.l0, if_pos (by omega), if_pos (by omega), e2]
  exact ih (i + 1) k _ (by omega) (by omega)
theorem few_near (xs : List Int) (l : List S40) (hl : l.length ≤ 300) (hB : ∀ x ∈ l, x.f1.length ≤ 140737488351232) : ∀ (m i k acc : Nat), i + m = l.length → m < k → acc + totN (l.drop i) ≤ 42221246505369600 →
  beryllaw20_few.l0 k xs l (acc : Int) (i : Int) = some (decide (xs.length ≤ 17000) && decide (acc + totN (l.drop i) ≤ 20000)) := by
 intro m
 induction m with
 | zero =>
  intro i k acc hi hk hs
  obtain ⟨k, rfl⟩ : ∃ j, k = j + 1 := ⟨k - 1, by omega⟩
  rw [beryllaw20_few.l0, if_neg (by omega), List.drop_of_length_le (by omega), totN]
  by_cases h1 : xs.length ≤ 17000
  ·rw [if_pos (by omega), if_pos (by omega)]
   simp [h1]
   omega
  ·rw [if_neg (by omega)]
   simp [h1]
 | succ m ih =>
  intro i k acc hi hk hs
  obtain ⟨k, rfl⟩ : ∃ j, k = j + 1 := ⟨k - 1, by omega⟩
  have hlt : i < l.length := by omega
  have e2 : wrap64 ((i : Int) + 1) = ((i + 1 : Nat) : Int) := by unfold wrap64; omega
  rw [tot_step l i hlt] at hs ⊢
  have e3 : wrap64 ((acc : Int) + (l[i].f1.length : Int)) = ((acc + l[i].f1.length : Nat) : Int) := by unfold wrap64; omega
  rw [beryllaw20_few.l0, if_pos (by omega), if_pos (by omega), e2, rdP l i hlt, e3, ih (i + 1) k (acc + l[i].f1.length) (by omega) (by omega) (by omega)]
  rw [Nat.add_assoc]
theorem few_f (xs : List Int) (l : List S40) (hl : l.length * 32 ≤ 140737488351232) (hB : ∀ x ∈ l, RecFits x) :
  ∃ b : Bool, (∀ k, l.length < k → beryllaw20_few.f k xs l = some b) ∧ (b = true → xs.length ≤ 17000 ∧ l.length ≤ 300 ∧ totN l ≤ 20000) := by
 by_cases h3 : l.length ≤ 300
 ·have ht := tot_le (fun x hx => (hB x hx).2.1)
  have ht2 : totN l ≤ 42221246505369600 := Nat.le_trans ht (by omega)
  refine ⟨decide (xs.length ≤ 17000) && decide (totN l ≤ 20000), fun k hk => ?_, fun h => ?_⟩
  ·have := few_near xs l h3 (fun x hx => (hB x hx).2.1) l.length 0 k 0 (by omega) hk (by simpa using ht2)
   simpa [beryllaw20_few.f] using this
  ·simp at h
   exact ⟨h.1, h3, h.2⟩
 ·refine ⟨false, fun k hk => ?_, fun h => by cases h⟩
  exact few_far xs l (by omega) (by omega) l.length 0 k 0 (by omega) hk
theorem putF_get {xs : List Int} {p : S42} (h : PutOk xs.length p) (q : Nat) (hq : q < p.f0.toNat * 64 ∨ p.f0.toNat * 64 + p.f1.length ≤ q) : (putF xs p)[q]? = xs[q]? := by
 obtain ⟨h0, h1, h2⟩ := h
 unfold putF
 have hl : (xs.take (p.f0.toNat * 64)).length = p.f0.toNat * 64 := by simp; omega
 rcases hq with hq | hq
 ·rw [List.getElem?_append_left (by omega), List.getElem?_take, if_pos hq]
 ·rw [List.getElem?_append_right (by omega), hl, List.getElem?_append_right (by omega), List.getElem?_drop]
  congr 1
  omega
theorem blk_get (xs : List Int) (i q : Nat) : (blkL xs i)[q]? = if q < 64 then xs[i * 64 + q]? else none := by
 unfold blkL
 rw [List.getElem?_take]
 split
 ·rw [List.getElem?_drop]
 ·rfl
theorem putF_blk {xs : List Int} {p : S42} (h : PutOk xs.length p) (i : Nat) (hi : i ≠ p.f0.toNat) : blkL (putF xs p) i = blkL xs i := by
 obtain ⟨_, _, h2⟩ := id h
 apply List.ext_getElem?
 intro q
 rw [blk_get, blk_get]
 split
 ·refine putF_get h _ ?_
  rcases Nat.lt_or_ge i p.f0.toNat with h3 | h3
  ·left
   have : (i + 1) * 64 ≤ p.f0.toNat * 64 := Nat.mul_le_mul_right 64 h3
   omega
  ·right
   have : (p.f0.toNat + 1) * 64 ≤ i * 64 := Nat.mul_le_mul_right 64 (by omega)
   omega
 ·rfl
theorem same_puts (l : List S42) (hl : l.length ≤ 9223372036854775807) (k : Nat) (hk : l.length < k) : berylref20_SamePuts.f k l l = some true := by
 have go : ∀ (m i k : Nat), i + m = l.length → m < k → berylref20_SamePuts.l0 k l l (i : Int) = some true := by
  intro m
  induction m with
  | zero =>
   intro i k hi hk
   obtain ⟨k, rfl⟩ : ∃ j, k = j + 1 := ⟨k - 1, by omega⟩
   rw [berylref20_SamePuts.l0, if_neg (by omega)]
  | succ m ih =>
   intro i k hi hk
   obtain ⟨k, rfl⟩ : ∃ j, k = j + 1 := ⟨k - 1, by omega⟩
   have e2 : wrap64 ((i : Int) + 1) = ((i + 1 : Nat) : Int) := by unfold wrap64; omega
   rw [berylref20_SamePuts.l0, if_pos (by omega), if_pos (by omega), if_pos (by omega), e2, ih (i + 1) k (by omega) (by omega)]
   simp
 unfold berylref20_SamePuts.f
 have h := go l.length 0 k (by omega) hk
 simpa using h
def nextOf (F : Nat → Nat) (m k : Nat) : Nat := if k < m then F k else 0
open Go Go.RowKit Go.Deep Go.Proofs.YtcdpkdehogcjnaaGreatW.PrintWords Go.Proofs.YtcdpkdehogcjnaaGreatW.PrintLast Go.Proofs.YtcdpkdehogcjnaaGreatW.PrintMore
/-- a row of one's own as records lie, and what they hold as long as nothing but the row is written -/
theorem rawsR_of {w : World} {base : Nat} {ok : Nat → Prop} {v : Value} {xs : List S40} (h : Kd.R k40 40 w base ok v xs) :
  ∃ rs : List Raw, Kd.R kRaw 40 w base (fun _ => True) v rs ∧ rs.length = xs.length ∧ ∀ w', w.grownBy w' v.ownBlock → RawsAre w' rs xs := by
 obtain ⟨_, inner, ho, hr⟩ := h
 have each : ∀ j, j < xs.length → ∃ r : Raw, ∃ x, xs[j]? = some x ∧ (inner.drop (j * 2)).take 2 = [.int .i64 r.1, sliceV r.2] ∧ ∀ w', w.grownBy w' v.ownBlock → RawIs w' r x := by
  intro j hj
  have hM := hr.2 j xs[j] (List.getElem?_eq_getElem hj)
  obtain ⟨A1, c1, hcs, hl, hC⟩ := k40_open (k40.K_of_M hM)
  refine ⟨(xs[j].f0, A1, xs[j].f1.length, c1), xs[j], List.getElem?_eq_getElem hj, hcs, fun w' hg => ⟨rfl, rfl, hl, ?_⟩⟩
  obtain ⟨A2, c2, hcs2, hl2, hC2⟩ := k40_open (k40.K_of_M (Kd.M_grown hM hg (fun k hk => hk.2)))
  rw [hcs] at hcs2
  injection hcs2 with _ h2
  injection h2 with h2 _
  injection h2 with h2 _ _
  rw [← h2] at hC2
  exact hC2
 haveI : Inhabited Raw := ⟨(0, none, 0, 0)⟩
 obtain ⟨y, hy⟩ := choose_lt each
 refine ⟨(List.range xs.length).map y, ⟨fun _ _ => trivial, inner, by rw [List.length_map, List.length_range]; exact ho, by rw [List.length_map, List.length_range]; exact hr.1, fun j p hj => ?_⟩, by simp, fun w' hg => ⟨by simp, fun i r x hi hx => ?_⟩⟩
 ·rw [List.getElem?_map] at hj
  obtain ⟨i, hi, rfl⟩ := Option.map_eq_some_iff.1 hj
  obtain ⟨hjl, hji⟩ := List.getElem?_eq_some_iff.1 hi
  simp at hjl hji
  subst hji
  obtain ⟨x, _, q0, _⟩ := hy j hjl
  have q0 : (inner.drop (j * kRaw.sz)).take kRaw.sz = [.int .i64 (y j).1, sliceV (y j).2] := q0
  rw [q0]
  exact kRaw_mkM _ _ _ _
 ·rw [List.getElem?_map] at hi
  obtain ⟨j, hj, rfl⟩ := Option.map_eq_some_iff.1 hi
  obtain ⟨hjl, hji⟩ := List.getElem?_eq_some_iff.1 hj
  simp at hjl hji
  subst hji
  obtain ⟨x', hx', _, q⟩ := hy i hjl
  rw [hx'] at hx
  cases hx
  exact q w' hg
def BodyIs (w : World) (s : Sl) (b : List Int) : Prop := s.2.1 = b.length ∧ b.length ≤ s.2.2 ∧ Kd.C (Kd.int .u8) w s.1 b.length b
def mapP (l : List S40) : List (Int × List Int) := l.foldl (fun m r => mput m r.f0 r.f1) []
def saveP (l : List S40) : List S40 := (sortL ((mapP l).map (·.1))).map fun n => ⟨n, (mget (mapP l) n).getD []⟩
inductive MRel (w : World) : List (Int × Sl) → List (Int × List Int) → Prop
 | nil : MRel w [] []
 | cons {k : Int} {s : Sl} {b : List Int} {m : List (Int × Sl)} {n : List (Int × List Int)} : BodyIs w s b → MRel w m n → MRel w ((k, s) :: m) ((k, b) :: n)
theorem MRel.put {w : World} {m : List (Int × Sl)} {n : List (Int × List Int)} (h : MRel w m n) {k : Int} {s : Sl} {b : List Int} (hb : BodyIs w s b) : MRel w (mput m k s) (mput n k b) := by
 induction h with
 | nil => exact .cons hb .nil
 | @cons k' s' b' m n hb' h ih =>
  unfold mput
  by_cases he : k = k'
  ·rw [if_pos he, if_pos he]
   exact .cons hb h
  ·rw [if_neg he, if_neg he]
   exact .cons hb' ih
theorem MRel.keys {w : World} {m : List (Int × Sl)} {n : List (Int × List Int)} (h : MRel w m n) : keysM m = n.map (·.1) := by
 induction h with
 | nil => rfl
 | cons _ _ ih => simp only [keysM, List.map_cons] at ih ⊢; rw [ih]
theorem MRel.get {w : World} {m : List (Int × Sl)} {n : List (Int × List Int)} (h : MRel w m n) (k : Int) : BodyIs w ((mget m k).getD (none, 0, 0)) ((mget n k).getD []) := by
 induction h with
 | nil => exact ⟨rfl, Nat.le_refl _, Kd.C_nil _ _⟩
 | @cons k' s' b' m n hb' h ih =>
  by_cases he : k = k'
  ·have e1 : mget ((k', s') :: m) k = some s' := by simp [mget, he]
   have e2 : mget ((k', b') :: n) k = some b' := by simp [mget, he]
   rw [e1, e2]
   exact hb'
  ·have e1 : mget ((k', s') :: m) k = mget m k := by simp [mget, he]
   have e2 : mget ((k', b') :: n) k = mget n k := by simp [mget, he]
   rw [e1, e2]
   exact ih
theorem raws_cons {w : World} {r : Raw} {rs : List Raw} {x : S40} {xs : List S40} (h : RawsAre w (r :: rs) (x :: xs)) : RawIs w r x ∧ RawsAre w rs xs :=
 ⟨h.2 0 r x rfl rfl, by have := h.1; simpa using this, fun i r' x' hr hx => h.2 (i + 1) r' x' hr hx⟩
theorem map_rel {w : World} : ∀ {rs : List Raw} {xs : List S40} {m : List (Int × Sl)} {n : List (Int × List Int)}, RawsAre w rs xs → MRel w m n → MRel w (rs.foldl (fun m r => mput m r.1 r.2) m) (xs.foldl (fun m r => mput m r.f0 r.f1) n)
 | [], [], _, _, _, h => h
 | [], _ :: _, _, _, h, _ => by have := h.1; simp at this
 | _ :: _, [], _, _, h, _ => by have := h.1; simp at this
 | r :: rs, x :: xs, m, n, h, hm => by
  obtain ⟨h1, h2⟩ := raws_cons h
  rw [List.foldl_cons, List.foldl_cons]
  refine map_rel h2 ?_
  rw [h1.1]
  exact hm.put h1.2
theorem save_rel {w : World} {rs : List Raw} {xs : List S40} (h : RawsAre w rs xs) : RawsAre w (saveRaw rs) (saveP xs) := by
 have hm : MRel w (mapF rs) (mapP xs) := map_rel h .nil
 have hk := hm.keys
 unfold saveRaw saveP outRaw
 rw [hk]
 refine ⟨by simp, fun i r x hr hx => ?_⟩
 rw [List.getElem?_map] at hr hx
 obtain ⟨n, hn, rfl⟩ := Option.map_eq_some_iff.1 hr
 obtain ⟨n', hn', rfl⟩ := Option.map_eq_some_iff.1 hx
 rw [hn] at hn'
 cases hn'
 exact ⟨rfl, hm.get n⟩
theorem raws_app {w : World} {r1 r2 : List Raw} {x1 x2 : List S40} (h1 : RawsAre w r1 x1) (h2 : RawsAre w r2 x2) : RawsAre w (r1 ++ r2) (x1 ++ x2) := by
 refine ⟨by rw [List.length_append, List.length_append, h1.1, h2.1], fun i r x hr hx => ?_⟩
 rw [List.getElem?_append] at hr hx
 rw [h1.1] at hr
 by_cases hi : i < x1.length
 ·rw [if_pos hi] at hr hx
  exact h1.2 i r x hr hx
 ·rw [if_neg hi] at hr hx
  exact h2.2 _ r x hr hx
theorem raws_keep {w : World} (ns : List Int) : ∀ {rs : List Raw} {xs : List S40}, RawsAre w rs xs → RawsAre w (keepL (fun r => ns.contains r.1) rs) (xs.filter fun r => !ns.contains r.f0)
 | [], [], h => h
 | [], _ :: _, h => by have := h.1; simp at this
 | _ :: _, [], h => by have := h.1; simp at this
 | r :: rs, x :: xs, h => by
  obtain ⟨h1, h2⟩ := raws_cons h
  have ih := raws_keep ns h2
  unfold keepL at ih ⊢
  rw [List.filter_cons, List.filter_cons]
  simp only [h1.1] at ih ⊢
  split
  ·refine ⟨by have := ih.1; simpa using this, fun i r' x' hr hx => ?_⟩
   cases i with
   | zero => cases hr; cases hx; exact h1
   | succ i => exact ih.2 i r' x' hr hx
  ·exact ih
theorem RawsAre.below {w w1 : World} {rs : List Raw} {xs : List S40} (h : RawsAre w rs xs) (hb : Below w.heap.size w w1) : RawsAre w1 rs xs := ⟨h.1, fun i r x hr hx => (h.2 i r x hr hx).below hb⟩
def savedL (l1 rs : List S40) : List S40 := saveP (rs ++ l1)
def leftL (ns : List Int) (rs : List S40) : List S40 := rs.filter fun r => !ns.contains r.f0
theorem save_do (A1 : Option Addr) (c1 : Nat) (l1 : List S40) (b : Nat) (w : World) (hb : w.cell? ⟨b, 0, none⟩ = some (.slice A1 l1.length c1)) (hr1 : Kd.C k40 w A1 l1.length l1) (hc1 : l1.length ≤ c1) (hl : l1.length ≤ 100000000) :
  DoOk 29 b w (savedL l1) := by
 intro w2 B mb vr rs hR hB hBB hrs
 obtain ⟨r1, hC1, hA1⟩ := raws_of hr1
 obtain ⟨ro, hRo, hro, hAo⟩ := rawsR_of hR
 obtain ⟨A0, c0, rfl, hc0, hC0⟩ := Kd.R_reads hRo
 have hbl : b < w.heap.size := World.block_lt_of_cell? w ⟨b, 0, none⟩ hb
 have hb2 : w2.cell? ⟨b, 0, none⟩ = some (.slice A1 l1.length c1) := (hB.cell (p := ⟨b, 0, none⟩) hbl).trans hb
 refine (save1_any A0 ro.length c0 ro b A1 l1.length c1 r1 w2 hC0 hc0 hb2 (Kd.C_below hC1 hB) hc1 (by rw [hA1.1, hro]; omega)).mono ?_
 rintro e w3 ⟨v, rfl, hR3, hB3⟩
 have hA := save_rel (raws_app ((hAo w2 (World.grownBy.refl _ _)).below hB3) ((hA1.below hB).below hB3))
 obtain ⟨A, c, rfl, hc, hC⟩ := Kd.R_reads hR3
 have hlen : (saveRaw (ro ++ r1)).length = (savedL l1 rs).length := hA.1
 rw [hlen] at hc hC ⊢
 exact ⟨A, c, rfl, hc, C_of_raws hC hA, grown_of hB3 _⟩
theorem contains_any (A1 : Option Addr) (c1 : Nat) (ns : List Int) (x : Int) (w : World) (hr : Kd.C (Kd.int .i64) w A1 ns.length ns) (hl : ns.length ≤ 1000000000) :
  Calls Tryz.prog 36 #[.slice A1 ns.length c1, .int .i64 x] w fun e w' => e = .returned (.bool (ns.contains x)) ∧ w' = w := by
 by_cases h0 : ns.length = 0
 ·obtain rfl : ns = [] := List.eq_nil_of_length_eq_zero h0
  exact Tryz.slices_Contains_int_empty A1 c1 x w
 ·obtain ⟨ad, x0, rfl, hx, _⟩ := cellN hr 0 (by omega) (Nat.le_refl _)
  have hs : ad.spot = none := by
   cases hsp : ad.spot with
   | none => rfl
   | some q =>
    unfold World.cell? at hx
    simp [Addr.add, hsp] at hx
    split at hx <;> simp at hx
  obtain ⟨b, off, sp⟩ := ad
  have hs : sp = none := hs
  subst hs
  refine (Tryz.slices_Contains_int b off ns.length c1 ns x w (Nat.le_refl _) (by omega) (fun j hj => ?_)).mono ?_
  ·obtain ⟨ad, y, e, hy, HY⟩ := cellN hr j hj (Nat.le_refl _)
   injection e with e
   subst e
   rw [List.getD_eq_getElem?_getD, HY.out]
   have e : (⟨b, off, none⟩ : Addr).add j = ⟨b, off + j, none⟩ := by
    unfold Addr.add
    split
    ·rename_i h; rw [h, Nat.add_zero]
    ·rfl
   rw [e] at hy
   exact hy
  ·rintro e w' ⟨rfl, rfl⟩
   exact ⟨by rw [List.take_length], rfl⟩
theorem drop11_any (A1 : Option Addr) (c1 : Nat) (ns : List Int) (b : Nat) (r : Raw) (w : World) (hb : w.cell? ⟨b, 0, none⟩ = some (.slice A1 ns.length c1)) (hr1 : Kd.C (Kd.int .i64) w A1 ns.length ns) (hl : ns.length ≤ 1000000000) :
  Calls Tryz.prog 35 #[.agg #[.int .i64 r.1, sliceV r.2], .pointer (some ⟨b, 0, none⟩)] w fun e w' => e = .returned (.bool (ns.contains r.1)) ∧ Below w.heap.size w w' := by
 obtain ⟨num, A, n, c⟩ := r
 simp only [sliceV]
 have hbl : b < w.heap.size := World.block_lt_of_cell? w ⟨b, 0, none⟩ hb
 have HR1 := Aside0.mk hr1
 clear hr1
 have hb1 : ∀ ob, (w.alloc ob).cell? ⟨b, 0, none⟩ = some (.slice A1 ns.length c1) := fun ob => ((below_alloc (Below.refl _ _) ob).cell (p := ⟨b, 0, none⟩) hbl).trans hb
 go_enter Tryz.func35, Tryz.ntmps35
 have HB1 := fun ob => below_alloc (Below.refl w.heap.size w) ob
 have HC1 := fun ob => Kd.C_alloc HR1.out ob
 go_wp2_with fail
 refine (contains_any A1 c1 ns num _ (HC1 _) hl).mono ?_
 rintro e w' ⟨rfl, rfl⟩
 go_wp2_with fail
 go_returns
 exact ⟨by simp [List.contains_eq_mem], HB1 _⟩
theorem C_empty (W : World) (A : Option Addr) : Kd.C kRaw W A 0 [] := ⟨rfl, by simp, fun h => absurd h (Nat.lt_irrefl 0)⟩
theorem delete_empty (A : Option Addr) (c : Nat) (fn : FuncId) (b : Nat) (p : Raw → Bool) (w0 W : World) (eg : ∀ args w, (callFunc fn args).run Tryz.prog w = .ok (.enter fn args) w) (hp : PredOk fn b w0 p) (hB : Below w0.heap.size w0 W) :
  Calls Tryz.prog 34 #[.slice A 0 c, .func (.func fn) #[] #[.pointer (some ⟨b, 0, none⟩)]] W fun e w' => e = .returned (.slice A 0 c) ∧ Below W.heap.size W w' := by
 have hI := index_raw fn b p w0 W A c [] (C_empty W A) (Nat.zero_le _) (by simp) eg hp hB
 go_enter Tryz.func34, Tryz.ntmps34
 have HI := Aside0.mk hI
 clear hI
 go_wp2_with fail
 refine HI.out.mono ?_
 rintro e w1 ⟨r, rfl, hF, hB1⟩
 rcases hF with ⟨rfl, _⟩ | ⟨i0, hi0, _⟩
 ·have HB1 := Aside0.mk hB1
  clear hB1
  go_wp2_with fail
  go_returns
  exact ⟨rfl, HB1.out⟩
 ·simp at hi0
set_option maxRecDepth 100000 in
theorem drop1_any (b : Nat) (p : Raw → Bool) (w0 W : World) (base : Nat) (v : Value) (l : List Raw) (hR : Kd.R kRaw 40 W base (fun _ => True) v l) (hl : l.length ≤ 1000000000)
  (hp : PredOk 35 b w0 p) (hB : Below w0.heap.size w0 W) (hb0 : w0.heap.size ≤ base) :
  Calls Tryz.prog 33 #[v, .pointer (some ⟨b, 0, none⟩)] W fun e w' => ∃ A c, e = .returned (.slice A (keepL p l).length c) ∧ (keepL p l).length ≤ c ∧ Kd.C kRaw w' A (keepL p l).length (keepL p l) ∧ W.grownBy w' v.ownBlock := by
 have hmf : ∀ (fn : Fn) (first cap : Array Value) (w : World), (Instr.makeFunc fn first cap).run Tryz.prog w = .ok (.func fn first cap) w := fun _ _ _ _ => rfl
 have eg : ∀ args w, (callFunc 35 args).run Tryz.prog w = .ok (.enter 35 args) w := fun _ _ => rfl
 by_cases h0 : l = []
 ·subst h0
  obtain ⟨A, c, rfl⟩ := Kd.R_slice hR
  have HD := Aside0.mk (delete_empty A c 35 b p w0 W eg hp hB)
  clear hR hp hB eg
  simp only [List.length_nil]
  go_enter Tryz.func33, Tryz.ntmps33
  go_wp2_with fail
  refine HD.out.mono ?_
  rintro e w1 ⟨rfl, hB1⟩
  have HB1 := Aside0.mk hB1
  clear hB1 HD
  go_wp2_with fail
  go_returns
  exact ⟨A, c, rfl, Nat.zero_le _, C_empty _ _, grown_of HB1.out _⟩
 ·obtain ⟨g, cap, rfl, _, _, _⟩ := Kd.R_form hR (List.length_pos_iff.2 h0)
  obtain ⟨ad, had⟩ : ∃ ad : Addr, ad = ⟨g, 0, none⟩ := ⟨_, rfl⟩
  have hD := delete_raw 35 b p w0 W base g cap ad l ⟨had⟩ hR hl eg hp hB hb0
  rw [had] at hD
  have HD := Aside0.mk hD
  have HLE : Aside0 ((keepL p l).length ≤ cap) := ⟨Nat.le_trans (List.length_filter_le _ _) (Kd.R_reads' hR).2.1⟩
  clear hD hR hp hB had eg
  go_enter Tryz.func33, Tryz.ntmps33
  go_wp2_with fail
  refine HD.out.mono ?_
  rintro e w1 ⟨rfl, hC, hG⟩
  have HC := Aside0.mk hC
  have HG := Aside0.mk hG
  clear hC hG HD
  go_wp2_with fail
  go_returns
  exact ⟨some ⟨g, 0, none⟩, cap, rfl, HLE.out, HC.out, HG.out⟩
theorem drop_do (A1 : Option Addr) (c1 : Nat) (ns : List Int) (b : Nat) (w : World) (hb : w.cell? ⟨b, 0, none⟩ = some (.slice A1 ns.length c1)) (hr1 : Kd.C (Kd.int .i64) w A1 ns.length ns) (hl : ns.length ≤ 1000000000) :
  DoOk 33 b w (leftL ns) := by
 intro w2 B mb vr rs hR hB hBB hrs
 obtain ⟨ro, hRo, hro, hAo⟩ := rawsR_of hR
 have hbl : b < w.heap.size := World.block_lt_of_cell? w ⟨b, 0, none⟩ hb
 have hp : PredOk 35 b w (fun r => ns.contains r.1) := fun W r hW =>
  drop11_any A1 c1 ns b r W ((hW.cell (p := ⟨b, 0, none⟩) hbl).trans hb) (Kd.C_below hr1 hW) hl
 refine (drop1_any b _ w w2 B vr ro hRo (by omega) hp hB hBB).mono ?_
 rintro e w3 ⟨A, c, rfl, hc, hC, hG⟩
 have hA := raws_keep ns (hAo w3 hG)
 have hlen : (keepL (fun r => ns.contains r.1) ro).length = (leftL ns rs).length := hA.1
 rw [hlen] at hc hC ⊢
 exact ⟨A, c, rfl, hc, C_of_raws hC hA, hG⟩
def Inc (l : List S40) : Prop := l.Pairwise fun x y => x.f0 < y.f0
theorem asked_some : ∀ (l : List S40) (n : Int), askedR (some n) l = 0 → (∀ x ∈ l, n < x.f0 ∧ 1 ≤ x.f0 ∧ x.f0 ≤ 4611686018427387904 ∧ x.f1.length ≤ 4000) ∧ Inc l
 | [], _, _ => ⟨by simp, List.Pairwise.nil⟩
 | r :: l, n, h => by
  rw [askedR_cons] at h
  by_cases h1 : r.f0 < 1
  ·rw [if_pos h1] at h; omega
  rw [if_neg h1] at h
  by_cases h2 : r.f0 > 4611686018427387904
  ·rw [if_pos h2] at h; omega
  rw [if_neg h2] at h
  by_cases h3 : (r.f1.length : Int) > 4000
  ·rw [if_pos h3] at h; omega
  rw [if_neg h3] at h
  by_cases h4 : r.f0 ≤ n
  ·simp only [if_pos h4] at h; omega
  simp only [if_neg h4] at h
  obtain ⟨q1, q2⟩ := asked_some l r.f0 h
  refine ⟨fun x hx => ?_, List.Pairwise.cons (fun x hx => (q1 x hx).1) q2⟩
  rcases List.mem_cons.1 hx with rfl | hx
  ·exact ⟨by omega, by omega, by omega, by omega⟩
  ·obtain ⟨p1, p2⟩ := q1 x hx
   exact ⟨by omega, p2⟩
theorem asked_inc {l : List S40} (h : askedF l = 0) : (∀ x ∈ l, 1 ≤ x.f0 ∧ x.f0 ≤ 4611686018427387904 ∧ x.f1.length ≤ 4000) ∧ Inc l := by
 have h : askedR (some 0) l = 0 := by rw [asked_zero]; exact h
 obtain ⟨h1, h2⟩ := asked_some l 0 h
 exact ⟨fun x hx => (h1 x hx).2, h2⟩
theorem inc_asked : ∀ (l : List S40) (n : Int), (∀ x ∈ l, n < x.f0 ∧ 1 ≤ x.f0 ∧ x.f0 ≤ 4611686018427387904 ∧ x.f1.length ≤ 4000) → Inc l → askedR (some n) l = 0
 | [], _, _, _ => askedR_nil _
 | r :: l, n, h, hi => by
  obtain ⟨h0, h1, h2, h3⟩ := h r (by simp)
  rw [askedR_cons, if_neg (by omega), if_neg (by omega), if_neg (by omega)]
  simp only
  rw [if_neg (by omega)]
  obtain ⟨q1, q2⟩ := List.pairwise_cons.1 hi
  exact inc_asked l r.f0 (fun x hx => ⟨q1 x hx, (h x (by simp [hx])).2⟩) q2
theorem asked_of {l : List S40} (h : ∀ x ∈ l, 1 ≤ x.f0 ∧ x.f0 ≤ 4611686018427387904 ∧ x.f1.length ≤ 4000) (hi : Inc l) : askedF l = 0 := by
 have := inc_asked l 0 (fun x hx => ⟨by have := (h x hx).1; omega, h x hx⟩) hi
 rw [asked_zero] at this
 exact this
theorem disk_asked0 {xs : List Int} (hb : IsBytes xs) {j : Nat} {st : HSt} (h : diskF xs = some (j, st)) : askedF st.recs = 0 := by
 obtain ⟨_, _, _, _, hh, _⟩ := disk_facts h
 unfold headF at hh
 simp only at hh
 split at hh
 ·unfold headG at hh
  split at hh
  ·cases hh
  ·rename_i used all hc
   split at hh
   ·rw [Option.map_eq_some_iff] at hh
    obtain ⟨rs, hr, rfl⟩ := hh
    have hball := chain_bytes _ _ hb _ _ _ _ _ _ hc (by intro x hx; simp at hx)
    rw [recs_parse _ _ _ (bytes_take hball _)] at hr
    cases hp : parseF _ _ with
    | none => rw [hp] at hr; cases hr
    | some l =>
     rw [hp, Option.bind_some] at hr
     split at hr
     ·rename_i ha
      cases hr
      rw [asked_zero] at ha
      exact ha
     ·cases hr
   ·cases hh
 ·cases hh
def lookP (l : List S40) (n : Int) : Option (List Int) := l.foldl (fun o r => if n = r.f0 then some r.f1 else o) none
theorem look_from (n : Int) : ∀ (l : List S40) (o : Option (List Int)), l.foldl (fun o r => if n = r.f0 then some r.f1 else o) o = (lookP l n).or o
 | [], o => rfl
 | r :: l, o => by
  unfold lookP
  rw [List.foldl_cons, List.foldl_cons, look_from n l, look_from n l (if n = r.f0 then some r.f1 else none)]
  cases lookP l n with
  | none => split <;> rfl
  | some b => rfl
theorem look_app (a b : List S40) (n : Int) : lookP (a ++ b) n = (lookP b n).or (lookP a n) := by
 unfold lookP
 rw [List.foldl_append]
 exact look_from n b _
theorem look_cons (r : S40) (l : List S40) (n : Int) : lookP (r :: l) n = (lookP l n).or (if n = r.f0 then some r.f1 else none) := by
 show l.foldl _ _ = _
 exact look_from n l _
theorem look_mem {n : Int} {b : List Int} : ∀ {l : List S40}, lookP l n = some b → (⟨n, b⟩ : S40) ∈ l
 | [], h => by cases h
 | r :: l, h => by
  rw [look_cons] at h
  cases hl : lookP l n with
  | none =>
   rw [hl, Option.none_or] at h
   split at h
   ·rename_i e
    cases h
    rw [e]
    exact List.mem_cons_self
   ·cases h
  | some b' =>
   rw [hl, Option.some_or] at h
   cases h
   exact List.mem_cons_of_mem _ (look_mem hl)
theorem look_inc {x : S40} : ∀ {l : List S40}, Inc l → x ∈ l → lookP l x.f0 = some x.f1
 | [], _, h => by cases h
 | r :: l, hi, h => by
  obtain ⟨q1, q2⟩ := List.pairwise_cons.1 hi
  rw [look_cons]
  rcases List.mem_cons.1 h with rfl | h
  ·cases hl : lookP l x.f0 with
   | none => simp
   | some b =>
    have h2 := q1 _ (look_mem hl)
    simp at h2
  ·rw [look_inc q2 h]
   rfl
theorem mapP_look (n : Int) (l : List S40) : mget (mapP l) n = lookP l n := by
 have go : ∀ (l : List S40) (m : List (Int × List Int)), mget (l.foldl (fun m r => mput m r.f0 r.f1) m) n = l.foldl (fun o r => if n = r.f0 then some r.f1 else o) (mget m n) := by
  intro l
  induction l with
  | nil => intro m; rfl
  | cons r l ih => intro m; rw [List.foldl_cons, List.foldl_cons, ih, mget_put]
 exact go l []
theorem keys_iff {β : Type} (n : Int) : ∀ (m : List (Int × β)), n ∈ m.map (·.1) ↔ (mget m n).isSome = true
 | [] => by simp [mget]
 | (k, v) :: m => by
  rw [List.map_cons, List.mem_cons, keys_iff n m]
  by_cases h : n = k
  ·simp [mget, h]
  ·simp [mget, h]
theorem put_nodup {β : Type} (k : Int) (v : β) : ∀ (m : List (Int × β)), (m.map (·.1)).Nodup → ((mput m k v).map (·.1)).Nodup
 | [], _ => by simp [mput]
 | (k', v') :: m, h => by
  unfold mput
  rw [List.map_cons, List.nodup_cons] at h
  split
  ·rw [List.map_cons, List.nodup_cons]
   exact ⟨h.1, h.2⟩
  ·rename_i e
   rw [List.map_cons, List.nodup_cons]
   refine ⟨fun hm => h.1 ?_, put_nodup k v m h.2⟩
   rw [keys_iff] at hm ⊢
   rw [mget_put, if_neg (fun e2 => e e2.symm)] at hm
   exact hm
theorem mapP_nodup (l : List S40) : ((mapP l).map (·.1)).Nodup := by
 have go : ∀ (l : List S40) (m : List (Int × List Int)), (m.map (·.1)).Nodup → ((l.foldl (fun m r => mput m r.f0 r.f1) m).map (·.1)).Nodup := by
  intro l
  induction l with
  | nil => intro m h; exact h
  | cons r l ih => intro m h; exact ih _ (put_nodup _ _ _ h)
 exact go l [] (by simp)
theorem sort_lt (ks : List Int) (h : ks.Nodup) : (sortL ks).Pairwise (· < ·) := by
 have h1 : (sortL ks).Pairwise fun x y => decide (x ≤ y) = true := List.pairwise_mergeSort (le := fun x y => decide (x ≤ y)) (fun a b c h1 h2 => by simp at h1 h2 ⊢; omega) (fun a b => by simp; omega) ks
 have h2 : (sortL ks).Nodup := (List.mergeSort_perm ks _).nodup_iff.2 h
 refine (h1.and h2).imp fun h => ?_
 obtain ⟨p, q⟩ := h
 simp at p
 omega
/-- what is saved, wholly told -/
theorem saveP_mem (l : List S40) (x : S40) : x ∈ saveP l ↔ lookP l x.f0 = some x.f1 := by
 unfold saveP
 rw [List.mem_map]
 have hk : ∀ n, n ∈ sortL ((mapP l).map (·.1)) ↔ (lookP l n).isSome = true := fun n => by
  rw [← mapP_look, ← keys_iff]
  exact (List.mergeSort_perm _ _).mem_iff
 constructor
 ·rintro ⟨n, hn, rfl⟩
  have h2 := (hk n).1 hn
  rw [mapP_look]
  obtain ⟨b, hb⟩ := Option.isSome_iff_exists.1 h2
  show lookP l n = some ((lookP l n).getD [])
  rw [hb]
  rfl
 ·intro h
  refine ⟨x.f0, (hk _).2 (by rw [h]; rfl), ?_⟩
  rw [mapP_look, h]
  rfl
theorem saveP_inc (l : List S40) : Inc (saveP l) := by
 unfold saveP Inc
 rw [List.pairwise_map]
 exact sort_lt _ (mapP_nodup l)
/-- sorted lists with the same members are the same -/
theorem inc_same : ∀ {a b : List S40}, Inc a → Inc b → (∀ x, x ∈ a ↔ x ∈ b) → a = b
 | [], [], _, _, _ => rfl
 | [], y :: b, _, _, h => by have := (h y).2 (by simp); cases this
 | x :: a, [], _, _, h => by have := (h x).1 (by simp); cases this
 | x :: a, y :: b, ha, hb, h => by
  obtain ⟨p1, p2⟩ := List.pairwise_cons.1 ha
  obtain ⟨q1, q2⟩ := List.pairwise_cons.1 hb
  have e : x = y := by
   rcases List.mem_cons.1 ((h x).1 (by simp)) with e | h1
   ·exact e
   ·rcases List.mem_cons.1 ((h y).2 (by simp)) with e | h2
    ·exact e.symm
    ·have h3 := q1 x h1
     have h4 := p1 y h2
     omega
  subst e
  congr 1
  refine inc_same p2 q2 fun z => ⟨fun hz => ?_, fun hz => ?_⟩
  ·rcases List.mem_cons.1 ((h z).1 (by simp [hz])) with e | h1
   ·subst e
    have := p1 z hz
    omega
   ·exact h1
  ·rcases List.mem_cons.1 ((h z).2 (by simp [hz])) with e | h1
   ·subst e
    have := q1 z hz
    omega
   ·exact h1
theorem inc_len : ∀ {a : List S40} {l : List S40}, a.Nodup → (∀ x ∈ a, x ∈ l) → a.length ≤ l.length
 | [], _, _, _ => Nat.zero_le _
 | x :: a, l, hn, h => by
  obtain ⟨h1, h2⟩ := List.nodup_cons.1 hn
  obtain ⟨s, t, rfl⟩ := List.append_of_mem (h x (by simp))
  have := inc_len (a := a) (l := s ++ t) h2 (fun y hy => by
   have := h y (by simp [hy])
   rcases List.mem_append.1 this with q | q
   ·exact List.mem_append_left _ q
   ·rcases List.mem_cons.1 q with rfl | q
    ·exact absurd hy h1
    ·exact List.mem_append_right _ q)
  simp at this ⊢
  omega
theorem inc_nodup {a : List S40} (h : Inc a) : a.Nodup := h.imp fun hlt e => by subst e; omega
theorem saveP_sub {l : List S40} {x : S40} (h : x ∈ saveP l) : x ∈ l := look_mem ((saveP_mem l x).1 h)
theorem saveP_len (l : List S40) : (saveP l).length ≤ l.length := inc_len (inc_nodup (saveP_inc l)) (fun _ h => saveP_sub h)
def disk_Save.f (l0 : List Int) (l1 : List S40) : Option (List S42 × Int) := if IsBytes l0 ∧ l1.length ≤ 100000000 then some (writeG l0 l1 (savedL l1)) else none
def disk_Drop.f (l0 : List Int) (ns : List Int) : Option (List S42 × Int) := if IsBytes l0 ∧ ns.length ≤ 1000000000 then some (writeG l0 [] (leftL ns)) else none
theorem bytes_le {l : List S40} (h : ∀ x ∈ l, x.f1.length ≤ 4000) (hl : l.length ≤ 1000000000) : (recsB l).length ≤ 70368744177664 := by
 have h1 := tot_le h
 rw [recs_len]
 omega
set_option maxRecDepth 100000 in
theorem disk_Save.calls (A0 : Option Addr) (c0 : Nat) (l0 : List Int) (A1 : Option Addr) (c1 : Nat) (l1 : List S40) (r1 : List S42) (r2 : Int) (w : World) (hr0 : Kd.C (Kd.int .u8) w A0 l0.length l0) (hc0 : l0.length ≤ c0)
  (hr1 : Kd.C k40 w A1 l1.length l1) (hc1 : l1.length ≤ c1) (h : disk_Save.f l0 l1 = some (r1, r2)) :
  Calls Tryz.prog 9 #[.slice A0 l0.length c0, .slice A1 l1.length c1] w fun e w' => ∃ v0_ : Value, e = .returned (.tuple #[v0_, .int .i64 r2]) ∧ Kd.R k42 42 w' w.heap.size (fun _ => True) v0_ r1 ∧ Below w.heap.size w w' := by
 unfold disk_Save.f at h
 by_cases hb : IsBytes l0 ∧ l1.length ≤ 100000000
 rotate_left
 ·rw [if_neg hb] at h; exact absurd h (by simp)
 rw [if_pos hb] at h
 have hh := Option.some.inj h
 have hmf : ∀ (fn : Fn) (first cap : Array Value) (w : World), (Instr.makeFunc fn first cap).run Tryz.prog w = .ok (.func fn first cap) w := fun _ _ _ _ => rfl
 obtain ⟨w1, hw1⟩ : ∃ w1, w1 = w.alloc (.cells #[.slice A1 l1.length c1] 23) := ⟨_, rfl⟩
 have hB1 : Below w.heap.size w w1 := by rw [hw1]; exact below_alloc (Below.refl _ _) _
 have hx : w1.cell? ⟨w.heap.size, 0, none⟩ = some (.slice A1 l1.length c1) := by
  have := blk_cell (heap_alloc_new w (.cells #[.slice A1 l1.length c1] 23)) 0
  rw [hw1]; first | exact this | simp
 have hC := change_any 29 (savedL l1) A0 c0 l0 A1 c1 l1 w.heap.size w1 (Kd.C_below hr0 hB1) hc0 hb.1 (Kd.C_below hr1 hB1) hc1 (fun _ _ => rfl) (save_do A1 c1 l1 w.heap.size w1 hx (Kd.C_below hr1 hB1) hc1 hb.2) (fun j st hd ha => by
  obtain ⟨q1, _⟩ := asked_inc ha
  obtain ⟨q2, _⟩ := asked_inc (disk_asked0 hb.1 hd)
  have q3 := disk_recs hd
  refine bytes_le (fun x hx => ?_) ?_
  ·rcases List.mem_append.1 (saveP_sub hx) with h | h
   ·exact (q2 x h).2.2
   ·exact (q1 x h).2.2
  ·have := saveP_len (st.recs ++ l1)
   rw [List.length_append] at this
   unfold savedL
   omega)
 rw [hh] at hC
 have HC := Aside0.mk hC
 have HB1 := Aside0.mk hB1
 have HX := Aside0.mk hx
 have HW1 := Aside0.mk hw1
 clear h hr0 hr1 hb hh hC hB1
 rw [hw1] at hx
 clear hw1
 go_enter Tryz.func9, Tryz.ntmps9
 go_wp2_with fail
 rw [← HW1.out]
 refine HC.out.mono ?_
 rintro e w2 ⟨v, rfl, hR, hB⟩
 have HR := Aside0.mk hR
 have HB := Aside0.mk hB
 clear hR hB HC
 go_wp2_with fail
 go_returns
 exact ⟨v, rfl, Kd.R_lower HR.out HB1.out.size, HB1.out.trans (HB.out.mono HB1.out.size)⟩
set_option maxRecDepth 100000 in
theorem disk_Drop.calls (A0 : Option Addr) (c0 : Nat) (l0 : List Int) (A1 : Option Addr) (c1 : Nat) (l1 : List Int) (r1 : List S42) (r2 : Int) (w : World) (hr0 : Kd.C (Kd.int .u8) w A0 l0.length l0) (hc0 : l0.length ≤ c0)
  (hr1 : Kd.C (Kd.int .i64) w A1 l1.length l1) (hc1 : l1.length ≤ c1) (h : disk_Drop.f l0 l1 = some (r1, r2)) :
  Calls Tryz.prog 12 #[.slice A0 l0.length c0, .slice A1 l1.length c1] w fun e w' => ∃ v0_ : Value, e = .returned (.tuple #[v0_, .int .i64 r2]) ∧ Kd.R k42 42 w' w.heap.size (fun _ => True) v0_ r1 ∧ Below w.heap.size w w' := by
 unfold disk_Drop.f at h
 by_cases hb : IsBytes l0 ∧ l1.length ≤ 1000000000
 rotate_left
 ·rw [if_neg hb] at h; exact absurd h (by simp)
 rw [if_pos hb] at h
 have hh := Option.some.inj h
 have hmf : ∀ (fn : Fn) (first cap : Array Value) (w : World), (Instr.makeFunc fn first cap).run Tryz.prog w = .ok (.func fn first cap) w := fun _ _ _ _ => rfl
 obtain ⟨w1, hw1⟩ : ∃ w1, w1 = w.alloc (.cells #[.slice A1 l1.length c1] 24) := ⟨_, rfl⟩
 have hB1 : Below w.heap.size w w1 := by rw [hw1]; exact below_alloc (Below.refl _ _) _
 have hx : w1.cell? ⟨w.heap.size, 0, none⟩ = some (.slice A1 l1.length c1) := by
  have := blk_cell (heap_alloc_new w (.cells #[.slice A1 l1.length c1] 24)) 0
  rw [hw1]; first | exact this | simp
 have hC := change_any 33 (leftL l1) A0 c0 l0 none 0 [] w.heap.size w1 (Kd.C_below hr0 hB1) hc0 hb.1 (Kd.C_nil _ _) (Nat.le_refl _) (fun _ _ => rfl) (drop_do A1 c1 l1 w.heap.size w1 hx (Kd.C_below hr1 hB1) hb.2) (fun j st hd ha => by
  obtain ⟨q2, _⟩ := asked_inc (disk_asked0 hb.1 hd)
  have q3 := disk_recs hd
  refine bytes_le (fun x hx => (q2 x (List.mem_filter.1 hx).1).2.2) ?_
  have := List.length_filter_le (fun r : S40 => !l1.contains r.f0) st.recs
  unfold leftL
  omega)
 rw [hh] at hC
 have HC := Aside0.mk hC
 have HB1 := Aside0.mk hB1
 have HW1 := Aside0.mk hw1
 clear h hr0 hr1 hb hh hC hB1 hx hw1
 go_enter Tryz.func12, Tryz.ntmps12
 go_wp2_with fail
 rw [← HW1.out]
 refine HC.out.mono ?_
 rintro e w2 ⟨v, rfl, hR, hB⟩
 have HR := Aside0.mk hR
 have HB := Aside0.mk hB
 clear hR hB HC
 go_wp2_with fail
 go_returns
 exact ⟨v, rfl, Kd.R_lower HR.out HB1.out.size, HB1.out.trans (HB.out.mono HB1.out.size)⟩
def mergeK {α : Type} (key : α → Int) : Nat → List α → List α → List α
 | 0, _, _ => []
 | _ + 1, [], [] => []
 | f + 1, [], y :: b => y :: mergeK key f [] b
 | f + 1, x :: a, [] => x :: mergeK key f a []
 | f + 1, x :: a, y :: b => if key x < key y then x :: mergeK key f a (y :: b) else if key x = key y then mergeK key f a (y :: b) else y :: mergeK key f (x :: a) b
theorem mk_left {α : Type} (key : α → Int) (f : Nat) (a b : List α) (i k : Nat) (hi : i < a.length) (hk : b.length ≤ k) : mergeK key (f + 1) (a.drop i) (b.drop k) = a[i] :: mergeK key f (a.drop (i + 1)) (b.drop k) := by
 rw [List.drop_eq_getElem_cons hi, List.drop_of_length_le hk]
 rfl
theorem mk_right {α : Type} (key : α → Int) (f : Nat) (a b : List α) (i k : Nat) (hi : a.length ≤ i) (hk : k < b.length) : mergeK key (f + 1) (a.drop i) (b.drop k) = b[k] :: mergeK key f (a.drop i) (b.drop (k + 1)) := by
 rw [List.drop_eq_getElem_cons hk, List.drop_of_length_le hi]
 rfl
theorem mk_both {α : Type} (key : α → Int) (f : Nat) (a b : List α) (i k : Nat) (hi : i < a.length) (hk : k < b.length) : mergeK key (f + 1) (a.drop i) (b.drop k) =
  if key a[i] < key b[k] then a[i] :: mergeK key f (a.drop (i + 1)) (b.drop k) else if key a[i] = key b[k] then mergeK key f (a.drop (i + 1)) (b.drop k) else b[k] :: mergeK key f (a.drop i) (b.drop (k + 1)) := by
 rw [List.drop_eq_getElem_cons hi, List.drop_eq_getElem_cons hk]
 rfl
def mergeR (a b : List Raw) : List Raw := mergeK (·.1) (a.length + b.length) a b
def MgRel (w : World) (a b : List Raw) (u5 u6 u7 : Value) (wr : World) : Prop :=
 ∃ (i k f : Nat) (out : List Raw), u6 = .int .i64 i ∧ u7 = .int .i64 k ∧ i ≤ a.length ∧ k ≤ b.length ∧ f = (a.length - i) + (b.length - k) ∧ Aside0 (out ++ mergeK (·.1) f (a.drop i) (b.drop k) = mergeR a b) ∧ out.length ≤ i + k ∧
  Aside0 (Kd.R kRaw 40 wr w.heap.size (fun _ => True) u5 out) ∧ Aside0 (Below w.heap.size w wr)
set_option maxRecDepth 100000 in
set_option maxHeartbeats 4000000 in
theorem merged_raw (A : Option Addr) (c : Nat) (a : List Raw) (A1 : Option Addr) (c1 : Nat) (b : List Raw) (w : World) (ha : Kd.C kRaw w A a.length a) (hc : a.length ≤ c) (hb : Kd.C kRaw w A1 b.length b) (hc1 : b.length ≤ c1) (hl : a.length + b.length ≤ 1000000000) :
  Calls Tryz.prog 32 #[.slice A a.length c, .slice A1 b.length c1] w fun e w' => ∃ v, e = .returned v ∧ Kd.R kRaw 40 w' w.heap.size (fun _ => True) v (mergeR a b) ∧ Below w.heap.size w w' := by
 have HA := Aside0.mk ha
 have HB := Aside0.mk hb
 clear ha hb
 go_enter Tryz.func32, Tryz.ntmps32
 go_wp2_with fail
 go_loopw [5, 6, 7] (fun u5 u6 u7 wr => MgRel w a b u5 u6 u7 wr) (fun _ u6 u7 _ => (a.length - (intOf u6).toNat) + (b.length - (intOf u7).toNat))
 case atStart => exact ⟨0, 0, _, [], rfl, rfl, by omega, by omega, rfl, ⟨rfl⟩, by simp, ⟨Kd.R_nil _ _ _ _ _⟩, ⟨Below.refl _ _⟩⟩
 case round =>
  obtain ⟨i, k, f, out, rfl, rfl, hi, hk, hf, HE, hol, HR, HBW⟩ := hrel
  have HAr : Aside0 (Kd.C kRaw wr A a.length a) := ⟨Kd.C_below HA.out HBW.out⟩
  have HBr : Aside0 (Kd.C kRaw wr A1 b.length b) := ⟨Kd.C_below HB.out HBW.out⟩
  have hi9 : i ≤ 1000000000 := by omega
  have hk9 : k ≤ 1000000000 := by omega
  have HF := Aside0.mk hf
  clear hf
  by_cases hlt : i < a.length
  ·have hd : decide (i < a.length) = true := decide_eq_true hlt
   obtain ⟨ad, rfl, p0, p1⟩ := raw_at HAr.out i hlt
   obtain ⟨r, hr⟩ : ∃ r, r = a[i] := ⟨_, rfl⟩
   rw [← hr] at p0 p1
   have HRR := Aside0.mk hr
   clear hr
   obtain ⟨num, A', n', c'⟩ := r
   simp only [sliceV] at p0 p1
   by_cases hkt : k < b.length
   ·have hd2 : decide (k < b.length) = true := decide_eq_true hkt
    have he2 : ((k : Int) == (b.length : Int)) = false := by rw [beq_eq_false_iff_ne]; omega
    obtain ⟨ad1, rfl, q0, q1⟩ := raw_at HBr.out k hkt
    obtain ⟨s, hs⟩ : ∃ s, s = b[k] := ⟨_, rfl⟩
    rw [← hs] at q0 q1
    have HSS := Aside0.mk hs
    clear hs
    obtain ⟨num1, A1', n1', c1'⟩ := s
    simp only [sliceV] at q0 q1
    rcases Int.lt_trichotomy num num1 with h | h | h
    ·have hd3 : decide (num < num1) = true := decide_eq_true h
     go_wp2_with fail
     go_quiet (fail)
     obtain ⟨wd, hwd⟩ : ∃ wd, wd = wr.drewN nq := ⟨_, rfl⟩
     rw [← hwd]
     have HRd : Aside0 (Kd.R kRaw 40 wd w.heap.size (fun _ => True) u5 out) := ⟨by rw [hwd]; exact Kd.R_drewN HR.out _⟩
     have HBd : Aside0 (Below w.heap.size w wd) := ⟨by rw [hwd]; exact pw_below_drewN HBW.out _⟩
     have p0d : wd.cell? (ad.add (i * 2)) = some (Value.int IntKind.i64 num) := by rw [hwd]; exact p0
     have p1d : wd.cell? ⟨(ad.add (i * 2)).block, (ad.add (i * 2)).off + 1, none⟩ = some (Value.slice A' n' c') := by rw [hwd]; exact p1
     have q0d : wd.cell? (ad1.add (k * 2)) = some (Value.int IntKind.i64 num1) := by rw [hwd]; exact q0
     have q1d : wd.cell? ⟨(ad1.add (k * 2)).block, (ad1.add (k * 2)).off + 1, none⟩ = some (Value.slice A1' n1' c1') := by rw [hwd]; exact q1
     clear hwd p0 p1 q0 q1
     go_wp2_with (at_builtin; refine Kd.R_append kRaw (w0 := w) w.heap.size rfl (.tmp 51) (.tmp 56) 23 40 (.agg #[.int .i64 0, .slice none 0 0]) 32 rfl Tryz.underlying23 info40 rfl (by decide) (by decide) u5 out (num, A', n', c') [.int .i64 num, .slice A' n' c'] (fun _ => True) (fun _ => False) rfl rfl ?aP (fun _ hk => hk.elim) (fun _ _ => trivial) HRd.out HBd.out HBd.out.size ?aL ?_)
     case aP => exact kRaw_mkM _ _ _ _
     case aL => omega
     intro v6 w6 hO6 hB6 _ _
     have HO6 := Aside0.mk hO6
     have HB6 := Aside0.mk hB6
     clear hO6 hB6
     go_wp2_with fail
     go_roundw
     case measure => simp [intOf]; omega
     case rel =>
      obtain ⟨f', rfl⟩ : ∃ f', f = f' + 1 := ⟨f - 1, by have := HF.out; omega⟩
      refine ⟨i + 1, k, f', out ++ [(num, A', n', c')], by go_num, rfl, by omega, by omega, by have := HF.out; omega, ⟨?_⟩, by simp; omega, HO6, HB6⟩
      have h9 := HE.out
      rw [mk_both _ _ _ _ _ _ hlt hkt, ← HRR.out, ← HSS.out] at h9
      dsimp only at h9
      rw [if_pos h] at h9
      rw [← h9]
      simp
    ·have hd3 : decide (num < num1) = false := decide_eq_false (by omega)
     have he3 : (num == num1) = true := by rw [beq_iff_eq]; exact h
     have HQ := Aside0.mk h
     clear h
     go_wp2_with fail
     go_quiet (fail)
     obtain ⟨wd, hwd⟩ : ∃ wd, wd = wr.drewN nq := ⟨_, rfl⟩
     rw [← hwd]
     have HRd0 : Aside0 (Kd.R kRaw 40 wd w.heap.size (fun _ => True) u5 out) := ⟨by rw [hwd]; exact Kd.R_drewN HR.out _⟩
     have HBd0 : Aside0 (Below w.heap.size w wd) := ⟨by rw [hwd]; exact pw_below_drewN HBW.out _⟩
     have p0d : wd.cell? (ad.add (i * 2)) = some (Value.int IntKind.i64 num) := by rw [hwd]; exact p0
     have p1d : wd.cell? ⟨(ad.add (i * 2)).block, (ad.add (i * 2)).off + 1, none⟩ = some (Value.slice A' n' c') := by rw [hwd]; exact p1
     have q0d : wd.cell? (ad1.add (k * 2)) = some (Value.int IntKind.i64 num1) := by rw [hwd]; exact q0
     have q1d : wd.cell? ⟨(ad1.add (k * 2)).block, (ad1.add (k * 2)).off + 1, none⟩ = some (Value.slice A1' n1' c1') := by rw [hwd]; exact q1
     clear hwd p0 p1 q0 q1
     go_wp2_with fail
     go_quiet (fail)
     obtain ⟨we, hwe⟩ : ∃ we, we = wd.drewN nq := ⟨_, rfl⟩
     rw [← hwe]
     have HRd : Aside0 (Kd.R kRaw 40 we w.heap.size (fun _ => True) u5 out) := ⟨by rw [hwe]; exact Kd.R_drewN HRd0.out _⟩
     have HBd : Aside0 (Below w.heap.size w we) := ⟨by rw [hwe]; exact pw_below_drewN HBd0.out _⟩
     have p0dd : we.cell? (ad.add (i * 2)) = some (Value.int IntKind.i64 num) := by rw [hwe]; exact p0d
     have q0dd : we.cell? (ad1.add (k * 2)) = some (Value.int IntKind.i64 num1) := by rw [hwe]; exact q0d
     clear hwe p0d q0d
     go_wp2_with fail
     go_roundw
     case measure => simp [intOf]; omega
     case rel =>
      obtain ⟨f', rfl⟩ : ∃ f', f = f' + 1 := ⟨f - 1, by have := HF.out; omega⟩
      refine ⟨i + 1, k, f', out, by go_num, rfl, by omega, by omega, by have := HF.out; omega, ⟨?_⟩, by omega, HRd, HBd⟩
      have h9 := HE.out
      rw [mk_both _ _ _ _ _ _ hlt hkt, ← HRR.out, ← HSS.out] at h9
      dsimp only at h9
      rw [if_neg (by have := HQ.out; omega), if_pos HQ.out] at h9
      rw [← h9]
    ·have hd3 : decide (num < num1) = false := decide_eq_false (by omega)
     have he3 : (num == num1) = false := by rw [beq_eq_false_iff_ne]; omega
     have HQ := Aside0.mk h
     clear h
     go_wp2_with fail
     go_quiet (fail)
     obtain ⟨wd, hwd⟩ : ∃ wd, wd = wr.drewN nq := ⟨_, rfl⟩
     rw [← hwd]
     have HRd0 : Aside0 (Kd.R kRaw 40 wd w.heap.size (fun _ => True) u5 out) := ⟨by rw [hwd]; exact Kd.R_drewN HR.out _⟩
     have HBd0 : Aside0 (Below w.heap.size w wd) := ⟨by rw [hwd]; exact pw_below_drewN HBW.out _⟩
     have p0d : wd.cell? (ad.add (i * 2)) = some (Value.int IntKind.i64 num) := by rw [hwd]; exact p0
     have p1d : wd.cell? ⟨(ad.add (i * 2)).block, (ad.add (i * 2)).off + 1, none⟩ = some (Value.slice A' n' c') := by rw [hwd]; exact p1
     have q0d : wd.cell? (ad1.add (k * 2)) = some (Value.int IntKind.i64 num1) := by rw [hwd]; exact q0
     have q1d : wd.cell? ⟨(ad1.add (k * 2)).block, (ad1.add (k * 2)).off + 1, none⟩ = some (Value.slice A1' n1' c1') := by rw [hwd]; exact q1
     clear hwd p0 p1 q0 q1
     go_wp2_with fail
     go_quiet (fail)
     obtain ⟨we, hwe⟩ : ∃ we, we = wd.drewN nq := ⟨_, rfl⟩
     rw [← hwe]
     have HRd : Aside0 (Kd.R kRaw 40 we w.heap.size (fun _ => True) u5 out) := ⟨by rw [hwe]; exact Kd.R_drewN HRd0.out _⟩
     have HBd : Aside0 (Below w.heap.size w we) := ⟨by rw [hwe]; exact pw_below_drewN HBd0.out _⟩
     have p0dd : we.cell? (ad.add (i * 2)) = some (Value.int IntKind.i64 num) := by rw [hwe]; exact p0d
     have q0dd : we.cell? (ad1.add (k * 2)) = some (Value.int IntKind.i64 num1) := by rw [hwe]; exact q0d
     have q1dd : we.cell? ⟨(ad1.add (k * 2)).block, (ad1.add (k * 2)).off + 1, none⟩ = some (Value.slice A1' n1' c1') := by rw [hwe]; exact q1d
     clear hwe p0d q0d q1d
     go_wp2_with (at_builtin; refine Kd.R_append kRaw (w0 := w) w.heap.size rfl (.tmp 18) (.tmp 23) 23 40 (.agg #[.int .i64 0, .slice none 0 0]) 32 rfl Tryz.underlying23 info40 rfl (by decide) (by decide) u5 out (num1, A1', n1', c1') [.int .i64 num1, .slice A1' n1' c1'] (fun _ => True) (fun _ => False) rfl rfl ?aP (fun _ hk => hk.elim) (fun _ _ => trivial) HRd.out HBd.out HBd.out.size ?aL ?_)
     case aP => exact kRaw_mkM _ _ _ _
     case aL => omega
     intro v6 w6 hO6 hB6 _ _
     have HO6 := Aside0.mk hO6
     have HB6 := Aside0.mk hB6
     clear hO6 hB6
     go_wp2_with fail
     go_roundw
     case measure => simp [intOf]; omega
     case rel =>
      obtain ⟨f', rfl⟩ : ∃ f', f = f' + 1 := ⟨f - 1, by have := HF.out; omega⟩
      refine ⟨i, k + 1, f', out ++ [(num1, A1', n1', c1')], rfl, by go_num, by omega, by omega, by have := HF.out; omega, ⟨?_⟩, by simp; omega, HO6, HB6⟩
      have h9 := HE.out
      rw [mk_both _ _ _ _ _ _ hlt hkt, ← HRR.out, ← HSS.out] at h9
      dsimp only at h9
      rw [if_neg (by have := HQ.out; omega), if_neg (by have := HQ.out; omega)] at h9
      rw [← h9]
      simp
   ·have hd2 : decide (k < b.length) = false := decide_eq_false hkt
    have he2 : ((k : Int) == (b.length : Int)) = true := by rw [beq_iff_eq]; omega
    go_wp2_with fail
    go_quiet (fail)
    obtain ⟨wd, hwd⟩ : ∃ wd, wd = wr.drewN nq := ⟨_, rfl⟩
    rw [← hwd]
    have HRd : Aside0 (Kd.R kRaw 40 wd w.heap.size (fun _ => True) u5 out) := ⟨by rw [hwd]; exact Kd.R_drewN HR.out _⟩
    have HBd : Aside0 (Below w.heap.size w wd) := ⟨by rw [hwd]; exact pw_below_drewN HBW.out _⟩
    have p0d : wd.cell? (ad.add (i * 2)) = some (Value.int IntKind.i64 num) := by rw [hwd]; exact p0
    have p1d : wd.cell? ⟨(ad.add (i * 2)).block, (ad.add (i * 2)).off + 1, none⟩ = some (Value.slice A' n' c') := by rw [hwd]; exact p1
    clear hwd p0 p1
    go_wp2_with (at_builtin; refine Kd.R_append kRaw (w0 := w) w.heap.size rfl (.tmp 51) (.tmp 56) 23 40 (.agg #[.int .i64 0, .slice none 0 0]) 32 rfl Tryz.underlying23 info40 rfl (by decide) (by decide) u5 out (num, A', n', c') [.int .i64 num, .slice A' n' c'] (fun _ => True) (fun _ => False) rfl rfl ?aP (fun _ hk => hk.elim) (fun _ _ => trivial) HRd.out HBd.out HBd.out.size ?aL ?_)
    case aP => exact kRaw_mkM _ _ _ _
    case aL => omega
    intro v6 w6 hO6 hB6 _ _
    have HO6 := Aside0.mk hO6
    have HB6 := Aside0.mk hB6
    clear hO6 hB6
    go_wp2_with fail
    go_roundw
    case measure => simp [intOf]; omega
    case rel =>
     obtain ⟨f', rfl⟩ : ∃ f', f = f' + 1 := ⟨f - 1, by have := HF.out; omega⟩
     refine ⟨i + 1, k, f', out ++ [(num, A', n', c')], by go_num, rfl, by omega, by omega, by have := HF.out; omega, ⟨?_⟩, by simp; omega, HO6, HB6⟩
     have h9 := HE.out
     rw [mk_left _ _ _ _ _ _ hlt (by omega), ← HRR.out] at h9
     skip
     rw [← h9]
     simp
  ·have hd : decide (i < a.length) = false := decide_eq_false hlt
   by_cases hkt : k < b.length
   ·have hd2 : decide (k < b.length) = true := decide_eq_true hkt
    have he2 : ((k : Int) == (b.length : Int)) = false := by rw [beq_eq_false_iff_ne]; omega
    obtain ⟨ad1, rfl, q0, q1⟩ := raw_at HBr.out k hkt
    obtain ⟨s, hs⟩ : ∃ s, s = b[k] := ⟨_, rfl⟩
    rw [← hs] at q0 q1
    have HSS := Aside0.mk hs
    clear hs
    obtain ⟨num1, A1', n1', c1'⟩ := s
    simp only [sliceV] at q0 q1
    go_wp2_with fail
    go_quiet (fail)
    obtain ⟨wd, hwd⟩ : ∃ wd, wd = wr.drewN nq := ⟨_, rfl⟩
    rw [← hwd]
    have HRd0 : Aside0 (Kd.R kRaw 40 wd w.heap.size (fun _ => True) u5 out) := ⟨by rw [hwd]; exact Kd.R_drewN HR.out _⟩
    have HBd0 : Aside0 (Below w.heap.size w wd) := ⟨by rw [hwd]; exact pw_below_drewN HBW.out _⟩
    have q0d : wd.cell? (ad1.add (k * 2)) = some (Value.int IntKind.i64 num1) := by rw [hwd]; exact q0
    have q1d : wd.cell? ⟨(ad1.add (k * 2)).block, (ad1.add (k * 2)).off + 1, none⟩ = some (Value.slice A1' n1' c1') := by rw [hwd]; exact q1
    clear hwd q0 q1
    go_wp2_with fail
    go_quiet (fail)
    obtain ⟨we, hwe⟩ : ∃ we, we = wd.drewN nq := ⟨_, rfl⟩
    rw [← hwe]
    have HRd : Aside0 (Kd.R kRaw 40 we w.heap.size (fun _ => True) u5 out) := ⟨by rw [hwe]; exact Kd.R_drewN HRd0.out _⟩
    have HBd : Aside0 (Below w.heap.size w we) := ⟨by rw [hwe]; exact pw_below_drewN HBd0.out _⟩
    have q0dd : we.cell? (ad1.add (k * 2)) = some (Value.int IntKind.i64 num1) := by rw [hwe]; exact q0d
    have q1dd : we.cell? ⟨(ad1.add (k * 2)).block, (ad1.add (k * 2)).off + 1, none⟩ = some (Value.slice A1' n1' c1') := by rw [hwe]; exact q1d
    clear hwe q0d q1d
    go_wp2_with (at_builtin; refine Kd.R_append kRaw (w0 := w) w.heap.size rfl (.tmp 18) (.tmp 23) 23 40 (.agg #[.int .i64 0, .slice none 0 0]) 32 rfl Tryz.underlying23 info40 rfl (by decide) (by decide) u5 out (num1, A1', n1', c1') [.int .i64 num1, .slice A1' n1' c1'] (fun _ => True) (fun _ => False) rfl rfl ?aP (fun _ hk => hk.elim) (fun _ _ => trivial) HRd.out HBd.out HBd.out.size ?aL ?_)
    case aP => exact kRaw_mkM _ _ _ _
    case aL => omega
    intro v6 w6 hO6 hB6 _ _
    have HO6 := Aside0.mk hO6
    have HB6 := Aside0.mk hB6
    clear hO6 hB6
    go_wp2_with fail
    go_roundw
    case measure => simp [intOf]; omega
    case rel =>
     obtain ⟨f', rfl⟩ : ∃ f', f = f' + 1 := ⟨f - 1, by have := HF.out; omega⟩
     refine ⟨i, k + 1, f', out ++ [(num1, A1', n1', c1')], rfl, by go_num, by omega, by omega, by have := HF.out; omega, ⟨?_⟩, by simp; omega, HO6, HB6⟩
     have h9 := HE.out
     rw [mk_right _ _ _ _ _ _ (by omega) hkt, ← HSS.out] at h9
     skip
     rw [← h9]
     simp
   ·have hd2 : decide (k < b.length) = false := decide_eq_false hkt
    go_wp2_with fail
    go_returns
    refine ⟨_, rfl, ?_, HBW.out⟩
    have h9 := HE.out
    have hf0 : f = 0 := by have := HF.out; omega
    rw [hf0] at h9
    have h9 : out ++ [] = mergeR a b := h9
    rw [List.append_nil] at h9
    rw [← h9]
    exact HR.out
theorem putF_self {xs : List Int} {p : S42} (h : PutOk xs.length p) (h64 : p.f1.length = 64) : blkL (putF xs p) p.f0.toNat = p.f1 := by
 obtain ⟨_, h1, _⟩ := h
 unfold blkL putF
 rw [List.drop_left' (by rw [List.length_take]; omega), List.take_left' h64]
theorem doneF_snoc (xs : List Int) (ps : List S42) (p : S42) : doneF xs (ps ++ [p]) = putF (doneF xs ps) p := by simp [doneF, List.foldl_append]
/-- the writes of pieces, one after the other -/
structure Pieces (xs bs : List Int) (nb m : Nat) (F : Nat → Nat) (f : List Int) : Prop where
 len : xs.length = nb * 64
 ge : ∀ k, k < m → 2 ≤ F k ∧ F k < nb
 inj : ∀ i k, i < k → k < m → F i ≠ F k
 at_ : ∀ k, k ≤ m → f.getD k 0 = (nextOf F m k : Nat)
theorem Pieces.put {xs bs : List Int} {nb m : Nat} {F : Nat → Nat} {f : List Int} (P : Pieces xs bs nb m F f) (k : Nat) (hk : k < m) : (putAt f bs k).f0 = (F k : Nat) ∧ PutOk xs.length (putAt f bs k) := by
 have h1 := P.at_ k (by omega)
 have e : nextOf F m k = F k := if_pos hk
 rw [e] at h1
 have h2 : (putAt f bs k).f0 = (F k : Nat) := h1
 refine ⟨h2, ?_, ?_, ?_⟩
 ·rw [h2]; omega
 ·rw [h2, P.len, Int.toNat_natCast]
  have := (P.ge k hk).2
  omega
 ·rw [putAt_len]; omega
theorem Pieces.done {xs bs : List Int} {nb m : Nat} {F : Nat → Nat} {f : List Int} (P : Pieces xs bs nb m F f) : ∀ m', m' ≤ m → (doneF xs (writesL f bs m')).length = xs.length ∧ (∀ k, k < m' → blkL (doneF xs (writesL f bs m')) (F k) = (putAt f bs k).f1) ∧
  ∀ i, (∀ k, k < m' → i ≠ F k) → blkL (doneF xs (writesL f bs m')) i = blkL xs i
 | 0, _ => ⟨rfl, fun k hk => absurd hk (by omega), fun _ _ => rfl⟩
 | m' + 1, h => by
  obtain ⟨h1, h2, h3⟩ := P.done m' (by omega)
  obtain ⟨p0, p1⟩ := P.put m' (by omega)
  rw [writesL_succ, doneF_snoc]
  have p1' : PutOk (doneF xs (writesL f bs m')).length (putAt f bs m') := by rw [h1]; exact p1
  have e : (putAt f bs m').f0.toNat = F m' := by rw [p0, Int.toNat_natCast]
  refine ⟨by rw [putF_len p1', h1], fun k hk => ?_, fun i hi => ?_⟩
  ·by_cases hkm : k = m'
   ·subst hkm
    rw [← e]
    exact putF_self p1' (putAt_len _ _ _)
   ·rw [putF_blk p1' (F k) (by rw [e]; exact P.inj k m' (by omega) (by omega))]
    exact h2 k (by omega)
  ·rw [putF_blk p1' i (by rw [e]; exact hi m' (by omega))]
   exact h3 i (fun k hk => hi k (by omega))
def keyP (x : S40) : Int := x.f0
def mergeP (a b : List S40) : List S40 := mergeK keyP (a.length + b.length) a b
theorem raws_more {w : World} {r : Raw} {rs : List Raw} {x : S40} {xs : List S40} (h : RawIs w r x) (h2 : RawsAre w rs xs) : RawsAre w (r :: rs) (x :: xs) := by
 refine ⟨by have := h2.1; simpa using this, fun i r' x' hr hx => ?_⟩
 cases i with
 | zero => cases hr; cases hx; exact h
 | succ i => exact h2.2 i r' x' hr hx
theorem raws_nil (w : World) : RawsAre w [] [] := ⟨rfl, fun i r x hr _ => by simp at hr⟩
theorem raws_mergeK {w : World} : ∀ (f : Nat) {a b : List Raw} {xs ys : List S40}, RawsAre w a xs → RawsAre w b ys → RawsAre w (mergeK (·.1) f a b) (mergeK keyP f xs ys)
 | 0, _, _, _, _, _, _ => raws_nil w
 | f + 1, a, b, xs, ys, ha, hb => by
  cases a with
  | nil =>
   obtain rfl : xs = [] := List.eq_nil_of_length_eq_zero ha.1.symm
   cases b with
   | nil =>
    obtain rfl : ys = [] := List.eq_nil_of_length_eq_zero hb.1.symm
    exact raws_nil w
   | cons s b =>
    cases ys with
    | nil => have := hb.1; simp at this
    | cons y ys =>
     obtain ⟨h1, h2⟩ := raws_cons hb
     exact raws_more h1 (raws_mergeK f ha h2)
  | cons r a =>
   cases xs with
   | nil => have := ha.1; simp at this
   | cons x xs =>
    obtain ⟨g1, g2⟩ := raws_cons ha
    cases b with
    | nil =>
     obtain rfl : ys = [] := List.eq_nil_of_length_eq_zero hb.1.symm
     exact raws_more g1 (raws_mergeK f g2 hb)
    | cons s b =>
     cases ys with
     | nil => have := hb.1; simp at this
     | cons y ys =>
      obtain ⟨h1, h2⟩ := raws_cons hb
      unfold mergeK
      have e1 : r.1 = keyP x := g1.1
      have e2 : s.1 = keyP y := h1.1
      simp only [e1, e2]
      split
      ·exact raws_more g1 (raws_mergeK f g2 hb)
      ·split
       ·exact raws_mergeK f g2 hb
       ·exact raws_more h1 (raws_mergeK f ha h2)
theorem raws_merge {w : World} {a b : List Raw} {xs ys : List S40} (ha : RawsAre w a xs) (hb : RawsAre w b ys) : RawsAre w (mergeR a b) (mergeP xs ys) := by
 unfold mergeR mergeP
 rw [ha.1, hb.1]
 exact raws_mergeK _ ha hb
theorem mk_mem : ∀ (f : Nat) {a b : List S40}, a.length + b.length ≤ f → Inc a → Inc b → ∀ z, z ∈ mergeK keyP f a b ↔ z ∈ b ∨ (z ∈ a ∧ ∀ y ∈ b, y.f0 ≠ z.f0)
 | 0, a, b, h, _, _, z => by
  obtain rfl : a = [] := List.eq_nil_of_length_eq_zero (by omega)
  obtain rfl : b = [] := List.eq_nil_of_length_eq_zero (by omega)
  simp [mergeK]
 | f + 1, [], [], _, _, _, z => by simp [mergeK]
 | f + 1, [], y :: b, h, ha, hb, z => by
  obtain ⟨q1, q2⟩ := List.pairwise_cons.1 hb
  have ih := mk_mem f (a := []) (b := b) (by simp at h ⊢; omega) ha q2 z
  simp only [mergeK, List.mem_cons, ih]
  simp
 | f + 1, x :: a, [], h, ha, hb, z => by
  obtain ⟨q1, q2⟩ := List.pairwise_cons.1 ha
  have ih := mk_mem f (a := a) (b := []) (by simp at h ⊢; omega) q2 hb z
  simp only [mergeK, List.mem_cons, ih]
  simp
 | f + 1, x :: a, y :: b, h, ha, hb, z => by
  obtain ⟨p1, p2⟩ := List.pairwise_cons.1 ha
  obtain ⟨q1, q2⟩ := List.pairwise_cons.1 hb
  unfold mergeK keyP
  split
  ·rename_i hlt
   have ih := mk_mem f (a := a) (b := y :: b) (by simp at h ⊢; omega) p2 hb z
   rw [List.mem_cons, show mergeK (fun x : S40 => x.f0) = mergeK keyP from rfl, ih]
   constructor
   ·rintro (rfl | h1 | ⟨h1, h2⟩)
    ·refine .inr ⟨by simp, fun w hw => ?_⟩
     rcases List.mem_cons.1 hw with rfl | hw
     ·omega
     ·have := q1 w hw; omega
    ·exact .inl h1
    ·exact .inr ⟨by simp [h1], h2⟩
   ·rintro (h1 | ⟨h1, h2⟩)
    ·exact .inr (.inl h1)
    ·rcases List.mem_cons.1 h1 with rfl | h1
     ·exact .inl rfl
     ·exact .inr (.inr ⟨h1, h2⟩)
  ·split
   ·rename_i hlt he
    have ih := mk_mem f (a := a) (b := y :: b) (by simp at h ⊢; omega) p2 hb z
    rw [show mergeK (fun x : S40 => x.f0) = mergeK keyP from rfl, ih]
    constructor
    ·rintro (h1 | ⟨h1, h2⟩)
     ·exact .inl h1
     ·exact .inr ⟨by simp [h1], h2⟩
    ·rintro (h1 | ⟨h1, h2⟩)
     ·exact .inl h1
     ·rcases List.mem_cons.1 h1 with rfl | h1
      ·exact absurd he.symm (h2 y (by simp))
      ·exact .inr ⟨h1, h2⟩
   ·rename_i hlt he
    have ih := mk_mem f (a := x :: a) (b := b) (by simp at h ⊢; omega) ha q2 z
    rw [List.mem_cons, show mergeK (fun x : S40 => x.f0) = mergeK keyP from rfl, ih]
    constructor
    ·rintro (rfl | h1 | ⟨h1, h2⟩)
     ·exact .inl (by simp)
     ·exact .inl (by simp [h1])
     ·refine .inr ⟨h1, fun w hw => ?_⟩
      rcases List.mem_cons.1 hw with rfl | hw
      ·rcases List.mem_cons.1 h1 with rfl | h1
       ·omega
       ·have := p1 z h1; omega
      ·exact h2 w hw
    ·rintro (h1 | ⟨h1, h2⟩)
     ·rcases List.mem_cons.1 h1 with rfl | h1
      ·exact .inl rfl
      ·exact .inr (.inl h1)
     ·exact .inr (.inr ⟨h1, fun w hw => h2 w (by simp [hw])⟩)
theorem mk_inc : ∀ (f : Nat) {a b : List S40}, a.length + b.length ≤ f → Inc a → Inc b → Inc (mergeK keyP f a b)
 | 0, a, b, h, _, _ => List.Pairwise.nil
 | f + 1, [], [], _, _, _ => List.Pairwise.nil
 | f + 1, [], y :: b, h, ha, hb => by
  obtain ⟨q1, q2⟩ := List.pairwise_cons.1 hb
  have hf : ([] : List S40).length + b.length ≤ f := by simp at h ⊢; omega
  refine List.Pairwise.cons (fun z hz => ?_) (mk_inc f hf ha q2)
  rcases (mk_mem f hf ha q2 z).1 hz with h1 | ⟨h1, _⟩
  ·exact q1 z h1
  ·cases h1
 | f + 1, x :: a, [], h, ha, hb => by
  obtain ⟨q1, q2⟩ := List.pairwise_cons.1 ha
  have hf : a.length + ([] : List S40).length ≤ f := by simp at h ⊢; omega
  refine List.Pairwise.cons (fun z hz => ?_) (mk_inc f hf q2 hb)
  rcases (mk_mem f hf q2 hb z).1 hz with h1 | ⟨h1, _⟩
  ·cases h1
  ·exact q1 z h1
 | f + 1, x :: a, y :: b, h, ha, hb => by
  obtain ⟨p1, p2⟩ := List.pairwise_cons.1 ha
  obtain ⟨q1, q2⟩ := List.pairwise_cons.1 hb
  have h1 : a.length + (y :: b).length ≤ f := by simp at h ⊢; omega
  have h2 : (x :: a).length + b.length ≤ f := by simp at h ⊢; omega
  show Inc (if x.f0 < y.f0 then x :: mergeK keyP f a (y :: b) else if x.f0 = y.f0 then mergeK keyP f a (y :: b) else y :: mergeK keyP f (x :: a) b)
  split
  ·rename_i hlt
   refine List.Pairwise.cons (fun z hz => ?_) (mk_inc f h1 p2 hb)
   rcases (mk_mem f h1 p2 hb z).1 hz with g | ⟨g, _⟩
   ·rcases List.mem_cons.1 g with rfl | g
    ·exact hlt
    ·have := q1 z g; omega
   ·exact p1 z g
  ·split
   ·exact mk_inc f h1 p2 hb
   ·rename_i hlt he
    refine List.Pairwise.cons (fun z hz => ?_) (mk_inc f h2 ha q2)
    rcases (mk_mem f h2 ha q2 z).1 hz with g | ⟨g, _⟩
    ·exact q1 z g
    ·rcases List.mem_cons.1 g with rfl | g
     ·omega
     ·have := p1 z g; omega
/-- saving is merging -/
theorem merge_saved {a b : List S40} (ha : Inc a) (hb : Inc b) : mergeP a b = savedL b a := by
 refine inc_same (mk_inc _ (Nat.le_refl _) ha hb) (saveP_inc _) fun z => ?_
 unfold mergeP savedL
 rw [mk_mem _ (Nat.le_refl _) ha hb z, saveP_mem, look_app]
 cases hl : lookP b z.f0 with
 | none =>
  rw [Option.none_or]
  constructor
  ·rintro (h | ⟨h, _⟩)
   ·rw [look_inc hb h] at hl; cases hl
   ·exact look_inc ha h
  ·intro h
   refine .inr ⟨look_mem h, fun y hy e => ?_⟩
   have := look_inc hb hy
   rw [e, hl] at this
   cases this
 | some d =>
  rw [Option.some_or]
  constructor
  ·rintro (h | ⟨_, h2⟩)
   ·rw [← hl]; exact look_inc hb h
   ·exact absurd rfl (h2 ⟨z.f0, d⟩ (look_mem hl))
  ·intro h
   exact .inl (look_mem (hl.trans h))
theorem saved_asked {a b : List S40} (ha : askedF a = 0) (hb : askedF b = 0) : askedF (savedL b a) = 0 := by
 refine asked_of (fun x hx => ?_) (saveP_inc _)
 rcases List.mem_append.1 (saveP_sub hx) with h | h
 ·exact (asked_inc ha).1 x h
 ·exact (asked_inc hb).1 x h
theorem left_asked {a : List S40} (ha : askedF a = 0) (ns : List Int) : askedF (leftL ns a) = 0 :=
 asked_of (fun x hx => (asked_inc ha).1 x (List.mem_filter.1 hx).1) ((asked_inc ha).2.filter _)
theorem merged_P (A : Option Addr) (c : Nat) (a : List S40) (A1 : Option Addr) (c1 : Nat) (b : List S40) (w : World) (ha : Kd.C k40 w A a.length a) (hc : a.length ≤ c) (hb : Kd.C k40 w A1 b.length b) (hc1 : b.length ≤ c1) (hl : a.length + b.length ≤ 1000000000) :
  Calls Tryz.prog 32 #[.slice A a.length c, .slice A1 b.length c1] w fun e w' => ∃ A2 c2, e = .returned (.slice A2 (mergeP a b).length c2) ∧ (mergeP a b).length ≤ c2 ∧ Kd.C k40 w' A2 (mergeP a b).length (mergeP a b) ∧ Below w.heap.size w w' := by
 obtain ⟨ra, hra, haa⟩ := raws_of ha
 obtain ⟨rb, hrb, hbb⟩ := raws_of hb
 have e1 := haa.1
 have e2 := hbb.1
 rw [← e1] at hc hra ⊢
 rw [← e2] at hc1 hrb ⊢
 refine (merged_raw A c ra A1 c1 rb w hra hc hrb hc1 (by omega)).mono ?_
 rintro e w' ⟨v, rfl, hR, hB⟩
 obtain ⟨A2, c2, rfl, hc2, hC⟩ := Kd.R_reads hR
 have hA := raws_merge (haa.below hB) (hbb.below hB)
 have hlen := hA.1
 rw [hlen] at hc2 hC ⊢
 exact ⟨A2, c2, rfl, hc2, C_of_raws hC hA, hB⟩
def withoutR (ns : List Int) (l : List Raw) : List Raw := keepL (fun r => ns.contains r.1) l
def WoRel (w : World) (l : List Raw) (ns : List Int) (u5 u6 : Value) (wr : World) : Prop :=
 ∃ i : Nat, u6 = .int .i64 i ∧ i ≤ l.length ∧ Aside0 (Kd.R kRaw 40 wr w.heap.size (fun _ => True) u5 (withoutR ns (l.take i))) ∧ Aside0 (Below w.heap.size w wr)
theorem has_step (ns : List Int) (num x : Int) (k : Nat) (h : ns[k]? = some x) : (!(ns.take (k + 1)).contains num) = ((!(ns.take k).contains num) && (x != num)) := by
 rw [List.take_add_one, h]
 have e : (num == x) = (x == num) := by rw [Bool.beq_comm]
 simp only [Option.toList_some, List.contains_eq_mem, List.mem_append, List.mem_singleton, bne]
 by_cases h1 : num ∈ ns.take k
 ·simp [h1]
 ·by_cases h2 : num = x
  ·simp [h2]
  ·have h3 : ¬ x = num := fun e => h2 e.symm
   simp [h1, h2, h3]
theorem without_len (ns : List Int) (l : List Raw) : (withoutR ns l).length ≤ l.length := List.length_filter_le _ _
set_option maxRecDepth 100000 in
set_option maxHeartbeats 4000000 in
theorem without_raw (A : Option Addr) (c : Nat) (l : List Raw) (A1 : Option Addr) (c1 : Nat) (ns : List Int) (w : World) (ha : Kd.C kRaw w A l.length l) (hc : l.length ≤ c) (hb : Kd.C (Kd.int .i64) w A1 ns.length ns) (hc1 : ns.length ≤ c1) (hl : l.length ≤ 1000000000) (hn : ns.length ≤ 1000000000) :
  Calls Tryz.prog 37 #[.slice A l.length c, .slice A1 ns.length c1] w fun e w' => ∃ v, e = .returned v ∧ Kd.R kRaw 40 w' w.heap.size (fun _ => True) v (withoutR ns l) ∧ Below w.heap.size w w' := by
 have HA := Aside0.mk ha
 have HN := Aside0.mk hb
 clear ha hb
 go_enter Tryz.func37, Tryz.ntmps37
 go_wp2_with fail
 go_loopw [5, 6] (fun u5 u6 wr => WoRel w l ns u5 u6 wr) (fun _ u6 _ => l.length - (intOf u6).toNat)
 case atStart => exact ⟨0, rfl, by omega, ⟨Kd.R_nil _ _ _ _ _⟩, ⟨Below.refl _ _⟩⟩
 case round =>
  obtain ⟨i, rfl, hi, HR, HBW⟩ := hrel
  have hi9 : i ≤ 1000000000 := by omega
  by_cases hlt : i < l.length
  ·have hd : decide (i < l.length) = true := decide_eq_true hlt
   have hst := keep_step (fun r => ns.contains r.1) l i hlt
   obtain ⟨r, hr⟩ : ∃ r, r = l[i] := ⟨_, rfl⟩
   rw [← hr] at hst
   have HST := Aside0.mk hst
   have HRR := Aside0.mk hr
   clear hst hr
   obtain ⟨num, A', n', c'⟩ := r
   have HAr : Aside0 (Kd.C kRaw wr A l.length l) := ⟨Kd.C_below HA.out HBW.out⟩
   have HNr : Aside0 (Kd.C (Kd.int .i64) wr A1 ns.length ns) := ⟨Kd.C_below HN.out HBW.out⟩
   have hol : (withoutR ns (l.take i)).length ≤ i := Nat.le_trans (without_len _ _) (by rw [List.length_take]; omega)
   have HOL := Aside0.mk hol
   clear hol
   go_wp2_with fail
   go_loopw [7, 8] (fun u7 u8 wk => ∃ k : Nat, u8 = .int .i64 k ∧ k ≤ ns.length ∧ u7 = .bool (!(ns.take k).contains num) ∧ Aside0 (Below wr.heap.size wr wk)) (fun _ u8 _ => ns.length - (intOf u8).toNat)
   case atStart => exact ⟨0, rfl, by omega, by simp, ⟨Below.refl _ _⟩⟩
   case round =>
    obtain ⟨k, rfl, hk, rfl, HBK⟩ := hrel
    have hk9 : k ≤ 1000000000 := by omega
    obtain ⟨ad, rfl, p0, p1⟩ := raw_at (Kd.C_below HAr.out HBK.out) i hlt
    rw [← HRR.out] at p0 p1
    simp only [sliceV] at p0 p1
    by_cases hkt : k < ns.length
    ·have hd2 : decide (k < ns.length) = true := decide_eq_true hkt
     obtain ⟨ad1, x, rfl, hx, HX⟩ := cellN (Kd.C_below HNr.out HBK.out) k hkt (Nat.le_refl _)
     have HKS := Aside0.mk (has_step ns num x k HX.out)
     obtain ⟨kb, hkb⟩ : ∃ kb, kb = !(ns.take k).contains num := ⟨_, rfl⟩
     rw [← hkb] at HKS ⊢
     obtain ⟨nb, hnb⟩ : ∃ nb, (x != num) = nb := ⟨_, rfl⟩
     rw [hnb] at HKS
     clear hkb
     cases kb with
     | true =>
      go_wp2_with fail
      go_quiet (fail)
      go_wp2_with fail
      go_roundw
      case measure => simp [intOf]; omega
      case rel => exact ⟨k + 1, by go_num, by omega, by rw [HKS.out]; simp, ⟨pw_below_drewN HBK.out _⟩⟩
     | false =>
      go_wp2_with fail
      go_quiet (fail)
      go_wp2_with fail
      go_roundw
      case measure => simp [intOf]; omega
      case rel => exact ⟨k + 1, by go_num, by omega, by rw [HKS.out]; simp, ⟨pw_below_drewN HBK.out _⟩⟩
    ·have hd2 : decide (k < ns.length) = false := decide_eq_false hkt
     rw [List.take_of_length_le (show ns.length ≤ k by omega)]
     obtain ⟨kb, hkb⟩ : ∃ kb, kb = ns.contains num := ⟨_, rfl⟩
     rw [← hkb]
     have HKB := Aside0.mk hkb
     have HRk := Aside0.mk (Kd.R_below HR.out HBK.out)
     have HBk := Aside0.mk (HBW.out.trans (HBK.out.mono HBW.out.size))
     clear hkb
     cases kb with
     | true =>
      go_wp2_with fail
      go_roundw
      case measure => simp [intOf]; omega
      case rel =>
       refine ⟨i + 1, by go_num, by omega, ⟨?_⟩, HBk⟩
       have h := HST.out
       simp only [← HKB.out, if_true, List.append_nil] at h
       unfold withoutR
       rw [h]
       exact HRk.out
     | false =>
      go_wp2_with (at_builtin; refine Kd.R_append kRaw (w0 := w) w.heap.size rfl (.tmp 35) (.tmp 40) 23 40 (.agg #[.int .i64 0, .slice none 0 0]) 32 rfl Tryz.underlying23 info40 rfl (by decide) (by decide) u5 (withoutR ns (l.take i)) (num, A', n', c') [.int .i64 num, .slice A' n' c'] (fun _ => True) (fun _ => False) rfl rfl ?aP (fun _ hk => hk.elim) (fun _ _ => trivial) HRk.out HBk.out HBk.out.size ?aL ?_)
      case aP => exact kRaw_mkM _ _ _ _
      case aL => have := HOL.out; omega
      intro v6 w6 hO6 hB6 _ _
      have HO6 := Aside0.mk hO6
      have HB6 := Aside0.mk hB6
      clear hO6 hB6
      go_wp2_with fail
      go_roundw
      case measure => simp [intOf]; omega
      case rel =>
       refine ⟨i + 1, by go_num, by omega, ⟨?_⟩, HB6⟩
       have h := HST.out
       simp only [← HKB.out, Bool.false_eq_true, if_false, ← HRR.out] at h
       unfold withoutR
       rw [h]
       exact HO6.out
  ·have hd : decide (i < l.length) = false := decide_eq_false hlt
   go_wp2_with fail
   go_returns
   exact ⟨_, rfl, by have := HR.out; rwa [List.take_of_length_le (by omega)] at this, HBW.out⟩
theorem without_P (A : Option Addr) (c : Nat) (a : List S40) (A1 : Option Addr) (c1 : Nat) (ns : List Int) (w : World) (ha : Kd.C k40 w A a.length a) (hc : a.length ≤ c) (hb : Kd.C (Kd.int .i64) w A1 ns.length ns) (hc1 : ns.length ≤ c1) (hl : a.length ≤ 1000000000) (hn : ns.length ≤ 1000000000) :
  Calls Tryz.prog 37 #[.slice A a.length c, .slice A1 ns.length c1] w fun e w' => ∃ A2 c2, e = .returned (.slice A2 (leftL ns a).length c2) ∧ (leftL ns a).length ≤ c2 ∧ Kd.C k40 w' A2 (leftL ns a).length (leftL ns a) ∧ Below w.heap.size w w' := by
 obtain ⟨ra, hra, haa⟩ := raws_of ha
 have e1 := haa.1
 rw [← e1] at hc hra hl ⊢
 refine (without_raw A c ra A1 c1 ns w hra hc hb hc1 hl hn).mono ?_
 rintro e w' ⟨v, rfl, hR, hB⟩
 obtain ⟨A2, c2, rfl, hc2, hC⟩ := Kd.R_reads hR
 have hA : RawsAre w' (withoutR ns ra) (leftL ns a) := raws_keep ns (haa.below hB)
 have hlen := hA.1
 rw [hlen] at hc2 hC ⊢
 exact ⟨A2, c2, rfl, hc2, C_of_raws hC hA, hB⟩
end Go.Proofs.YtcdpkdehogcjnaaGreat.Print
