/- The reference's changes, and what its writes do: the same as the program's. -/
import Derived.Test.YtcdpkdehogcjnaaGreatRL
import Derived.Test.YtcdpkdehogcjnaaGreatRM
import Derived.Test.YtcdpkdehogcjnaaGreatRF
import Derived.Test.YtcdpkdehogcjnaaGreatRK
import Derived.BigQuiet
import Derived.Deep.QuietTactic
import Derived.Test.YtcdpkdehogcjnaaGreatRC
import Derived.Test.YtcdpkdehogcjnaaGreatRO
set_option linter.unusedVariables false
set_option linter.unusedSimpArgs false
namespace Go.Proofs.YtcdpkdehogcjnaaGreat.Print
open Go Go.RowKit Go.Deep Go.Proofs.YtcdpkdehogcjnaaGreatW.PrintWords Go.Proofs.YtcdpkdehogcjnaaGreatW.PrintLast Go.Proofs.YtcdpkdehogcjnaaGreatW.PrintMore
theorem mn_nat (a b : Nat) : mn (a : Int) (b : Int) = ((min a b : Nat) : Int) := by
 unfold mn
 split <;> omega
theorem piece_chunk (bs : List Int) (i : Nat) : (bs.take (min ((i + 1) * 62) bs.length)).drop (i * 62) = chunk bs i := by
 have h : bs.take (min ((i + 1) * 62) bs.length) = bs.take ((i + 1) * 62) := by
  rw [← List.take_take, List.take_length]
 rw [h, List.drop_take, chunk, show 62 * i = i * 62 by omega, show (i + 1) * 62 - i * 62 = 62 by omega]
theorem rd_at (fr : List Int) (i m : Nat) (hi : i < m) (hm : m ≤ fr.length) : rd fr (i : Int) = (fr.take m ++ [0]).getD i 0 := by
 rw [rdN fr i (by omega), List.getD_eq_getElem?_getD, List.getElem?_append_left (by rw [List.length_take]; omega), List.getElem?_take_of_lt hi, List.getElem?_eq_getElem (by omega)]
 rfl
theorem last_at (fr : List Int) (m : Nat) (hm : m ≤ fr.length) : (fr.take m ++ [0]).getD m 0 = 0 := by
 rw [List.getD_eq_getElem?_getD, List.getElem?_append_right (by rw [List.length_take]; omega), List.length_take, Nat.min_eq_left hm, Nat.sub_self]
 rfl
theorem word_len (n : Int) : (wordL n).length = 2 := rfl
theorem long_len (n : Int) : (longL n).length = 8 := rfl
theorem putWord_0 (n : Nat) (hn : n ≤ 1000000000000) : berylref20_putWord.f ([] : List Int) (n : Int) = some (wordL n) := by
 have := putWord_k [] n hn (by simp)
 simpa using this
theorem putWord_z : berylref20_putWord.f ([] : List Int) 0 = some (wordL 0) := putWord_0 0 (by omega)
theorem writes_end (bs fr : List Int) (m : Nat) (hmf : m ≤ fr.length) (hml : m ≤ 1000) (hb : bs.length ≤ 1000000) (hfn : ∀ x ∈ fr, 0 ≤ x ∧ x ≤ 1000) (j : Nat) (v : Int) (hj : j ≤ 1) (hv : 0 ≤ v ∧ v ≤ 1099511627776) (us : List Int) (rs : List S40)
  (out : List S42) (ho : out.length ≤ 1000) (k : Nat) (hk : 9 ≤ k) :
  berylref20_writes.l0 (k + 1) bs fr (m : Int) out (m : Int) (j : Int) v us rs =
   some (out ++ [⟨1 - (j : Int), headB (m : Int) bs.length ((fr.take m ++ [0]).getD 0 0) (v + 1) ++ headB (m : Int) bs.length ((fr.take m ++ [0]).getD 0 0) (v + 1)⟩], 0) := by
 have w1 : wrap64 (v + 1) = v + 1 := by unfold wrap64; omega
 have w2 : wrap64 (1 - (j : Int)) = 1 - (j : Int) := by unfold wrap64; omega
 rw [berylref20_writes.l0, if_neg (by omega), putWord_0 m (by omega), Option.bind_some, putWord_k _ _ (by omega) (by rw [word_len]; omega), Option.bind_some]
 by_cases hm0 : 0 < m
 ·obtain ⟨q, hq⟩ : ∃ q : Nat, (fr.take m ++ [0]).getD 0 0 = (q : Int) ∧ q ≤ 1000 := by
   have e := rd_at fr 0 m hm0 hmf
   have hx := hfn (fr[0]'(by omega)) (List.getElem_mem _)
   rw [rdN fr 0 (by omega)] at e
   rw [← e]
   exact ⟨(fr[0]'(by omega)).toNat, by omega, by omega⟩
  have e0 : rd fr 0 = (q : Int) := by rw [← hq.1]; exact rd_at fr 0 m hm0 hmf
  rw [if_pos (by omega), if_pos (by omega), e0, putWord_k _ _ (by omega) (by simp [word_len]), Option.bind_some, if_pos (by simp [word_len]), w1, putLong_at _ _ (by simp [word_len]) k hk, Option.bind_some, Option.bind_some,
   if_pos (by simp [word_len, long_len]), Option.bind_some, if_pos (by simp [word_len, long_len]), if_pos (by omega), w2, hq.1]
  simp [headB]
 ·obtain rfl : m = 0 := by omega
  rw [if_neg (by omega), show (0 : Int) = ((0 : Nat) : Int) from rfl, putWord_k _ _ (by omega) (by simp [word_len]), Option.bind_some, if_pos (by simp [word_len]), w1, putLong_at _ _ (by simp [word_len]) k hk, Option.bind_some, Option.bind_some,
   if_pos (by simp [word_len, long_len]), Option.bind_some, if_pos (by simp [word_len, long_len]), if_pos (by omega), w2]
  simp [headB]
theorem wr_a (i : Nat) (h : i ≤ 2000) : wrap64 ((i : Int) * 62) = ((i * 62 : Nat) : Int) := by unfold wrap64; omega
theorem wr_b (i : Nat) (h : i ≤ 2000) : wrap64 ((i : Int) + 1) = ((i + 1 : Nat) : Int) := by unfold wrap64; omega
theorem wr_c (m : Nat) (h : m ≤ 2000) : wrap64 ((m : Int) - 1) = (m : Int) - 1 := by unfold wrap64; omega
theorem wr_d (q : Int) (c : List Int) (h : c.length ≤ 62) : wrap64 (64 - ((wordL q ++ c).length : Int)) = ((62 - c.length : Nat) : Int) := by
 rw [List.length_append, word_len]
 unfold wrap64
 omega
theorem wr_e (n : Nat) (h : n ≤ 1000000) : wrap64 (Int.tdiv (wrap64 (wrap64 ((n : Int) + 62) - 1)) 62) = (((n + 61) / 62 : Nat) : Int) := by
 have a1 : wrap64 ((n : Int) + 62) = (n : Int) + 62 := by unfold wrap64; omega
 rw [a1]
 clear a1
 have a2 : wrap64 ((n : Int) + 62 - 1) = (n : Int) + 61 := by unfold wrap64; omega
 rw [a2, Int.tdiv_eq_ediv_of_nonneg (by omega)]
 clear a2
 unfold wrap64
 omega
theorem wr_f (n : Nat) (h : n ≤ 256) : wrap64 (62 * ((((n - 2) / 2 : Nat)) : Int)) = (roomN n : Int) := by
 unfold roomN wrap64
 omega
theorem room_R (nb : Nat) (h8 : 8 ≤ nb) (h : nb ≤ 256) : berylref20_room.f (nb : Int) = some (((nb - 2) / 2 : Nat) : Int) := by
 unfold berylref20_room.f wrap64
 rw [Int.tdiv_eq_ediv_of_nonneg (by omega)]
 congr 1
 omega
theorem writes_l0 (bs fr : List Int) (m : Nat) (hm : m = (bs.length + 61) / 62) (hmf : m ≤ fr.length) (hml : m ≤ 1000) (hb : bs.length ≤ 1000000) (hfn : ∀ x ∈ fr, 0 ≤ x ∧ x ≤ 1000) (j : Nat) (v : Int) (hj : j ≤ 1) (hv : 0 ≤ v ∧ v ≤ 1099511627776) (us : List Int) (rs : List S40) :
  ∀ (n i k : Nat), i + n = m → n + 10 < k →
  berylref20_writes.l0 k bs fr (m : Int) (writesL (fr.take m ++ [0]) bs i) (i : Int) (j : Int) v us rs =
   some (writesL (fr.take m ++ [0]) bs m ++ [⟨1 - (j : Int), headB (m : Int) bs.length ((fr.take m ++ [0]).getD 0 0) (v + 1) ++ headB (m : Int) bs.length ((fr.take m ++ [0]).getD 0 0) (v + 1)⟩], 0) := by
 intro n
 induction n with
 | zero =>
  intro i k hi hk
  obtain ⟨k, rfl⟩ : ∃ j, k = j + 1 := ⟨k - 1, by omega⟩
  obtain rfl : i = m := by omega
  exact writes_end bs fr i hmf hml hb hfn j v hj hv us rs _ (by rw [writesL_len]; omega) k (by omega)
 | succ n ih =>
  intro i k hi hk
  obtain ⟨k, rfl⟩ : ∃ j, k = j + 1 := ⟨k - 1, by omega⟩
  have hlt : i < m := by omega
  have hcl := chunk_len bs i
  have hs := writesL_succ (fr.take m ++ [0]) bs i
  rw [berylref20_writes.l0, if_pos (by omega), wr_c m (by omega), wr_b i (by omega), wr_a (i + 1) (by omega), wr_a i (by omega), mn_nat]
  simp only [Int.toNat_natCast, piece_chunk, Option.bind_some]
  by_cases hl : i + 1 < m
  ·obtain ⟨q, hq, hq2⟩ : ∃ q : Nat, (fr.take m ++ [0]).getD (i + 1) 0 = (q : Int) ∧ q ≤ 1000 := by
    have e7 := rd_at fr (i + 1) m hl hmf
    have hx := hfn (fr[i + 1]'(by omega)) (List.getElem_mem _)
    rw [rdN fr (i + 1) (by omega)] at e7
    rw [← e7]
    exact ⟨(fr[i + 1]'(by omega)).toNat, by omega, by omega⟩
   rw [if_pos (by omega), if_pos (by omega), if_pos (by omega), rd_at fr (i + 1) m hl hmf, hq, putWord_0 q (by omega), Option.bind_some, if_pos (by omega), if_pos (by omega), if_pos (by omega), if_pos (by rw [word_len]; omega),
    wr_d _ _ hcl, if_pos (by omega), if_pos (by simp only [List.length_append, word_len, Int.toNat_natCast]; omega), if_pos (by omega), if_pos (by omega), if_pos (by rw [writesL_len]; omega), rd_at fr i m hlt hmf, Int.toNat_natCast]
   rw [← ih (i + 1) k (by omega) (by omega), hs, putAt, hq, List.append_assoc (wordL _)]
  ·rw [if_neg (by omega), putWord_z, Option.bind_some, if_pos (by omega), if_pos (by omega), if_pos (by omega), if_pos (by rw [word_len]; omega),
    wr_d _ _ hcl, if_pos (by omega), if_pos (by simp only [List.length_append, word_len, Int.toNat_natCast]; omega), if_pos (by omega), if_pos (by omega), if_pos (by rw [writesL_len]; omega), rd_at fr i m hlt hmf, Int.toNat_natCast]
   have e8 : (fr.take m ++ [0]).getD (i + 1) 0 = 0 := by
    rw [show i + 1 = m by omega]; exact last_at fr m hmf
   rw [← ih (i + 1) k (by omega) (by omega), hs, putAt, e8, List.append_assoc (wordL _)]
theorem freeL_small (u : List Nat) : ∀ (k i : Nat), i + k ≤ 1000 → ∀ x ∈ freeL u i k, 0 ≤ x ∧ x ≤ 1000
 | 0, _, _, x, hx => by simp [freeL] at hx
 | k + 1, i, h, x, hx => by
  unfold freeL at hx
  split at hx
  ·exact freeL_small u k (i + 1) (by omega) x hx
  ·rcases List.mem_cons.1 hx with rfl | hx
   ·omega
   ·exact freeL_small u k (i + 1) (by omega) x hx
theorem writes_ref (xs : List Int) {j : Nat} {st : HSt} (hd : diskF xs = some (j, st)) (hu : ∀ x ∈ st.used, x < xs.length / 64) (l : List S40) (hl : l.length ≤ 1000000000) (hb : (recsB l).length ≤ 70368744177664)
  (hx : ∀ x ∈ l, x.f1.length ≤ 1000000000000) (k : Nat) (hk : l.length + 3000 ≤ k) :
  berylref20_writes.f k xs (j : Int) st.ver (castL st.used) st.recs l = some (changeR xs j st l) := by
 obtain ⟨h64, h8, h256, hj, _, hv1, hv2, hul⟩ := disk_facts hd
 have hs : sizeOk xs.length = true := by
  unfold diskF at hd
  split at hd
  ·assumption
  ·cases hd
 obtain ⟨bs, hbs⟩ : ∃ bs, bs = recsB l := ⟨_, rfl⟩
 unfold berylref20_writes.f changeR
 rw [written_k l (by omega) hb hx k (by omega), Option.bind_some, blocks_ok xs hs (by omega), Option.bind_some, room_R (xs.length / 64) h8 h256, Option.bind_some, ← hbs]
 rw [← hbs] at hb
 rw [wr_f (xs.length / 64) h256]
 obtain ⟨k, rfl⟩ : ∃ q, k = q + 1 := ⟨k - 1, by omega⟩
 by_cases hr : bs.length ≤ roomN (xs.length / 64)
 ·rw [if_neg (by omega), berylref20_writes.j0]
  by_cases hv : st.ver < 1099511627776
  ·have hw : writesOk (xs.length / 64) st.ver bs = true := by unfold writesOk; simp [hr, hv]
   rw [hw, if_pos rfl, if_neg (by simpa using hv), free_ref xs hs st.used hu (by omega) (j : Int) st.ver st.recs k (by omega), Option.bind_some]
   have hfm := free_room (u := st.used) (nb := xs.length / 64) h8 hul hr
   have hbl : bs.length ≤ 1000000 := by unfold roomN at hr; omega
   rw [wr_e bs.length hbl]
   have hfl := freeL_len st.used (xs.length / 64 - 2) 2
   have hm1000 : (bs.length + 61) / 62 ≤ 1000 := by omega
   have := writes_l0 bs (freeL st.used 2 (xs.length / 64 - 2)) ((bs.length + 61) / 62) rfl hfm hm1000 (by omega) (freeL_small _ _ _ (by omega)) j st.ver hj ⟨by omega, hv2⟩ (castL st.used) st.recs ((bs.length + 61) / 62) 0 k (by omega) (by omega)
   have e3 : writesL ((freeL st.used 2 (xs.length / 64 - 2)).take ((bs.length + 61) / 62) ++ [0]) bs 0 = [] := rfl
   rw [e3] at this
   exact this
  ·have hw : writesOk (xs.length / 64) st.ver bs = false := by unfold writesOk; simp [hv]
   rw [hw, if_pos (by simpa using hv)]
   rfl
 ·have hw : writesOk (xs.length / 64) st.ver bs = false := by unfold writesOk; simp [hr]
  rw [if_pos (by omega), berylref20_writes.j0, if_pos rfl, hw]
  rfl
theorem bodies_le {l : List S40} (h : askedF l = 0) : ∀ x ∈ l, x.f1.length ≤ 1000000000000 := fun x hx => Nat.le_trans ((asked_inc h).1 x hx).2.2 (by omega)
def berylref20_Save.f (l0 : List Int) (l1 : List S40) : Option (List S42 × Int) := if l0.length ≤ 9223372036854775807 then disk_Save.f l0 l1 else none
set_option maxRecDepth 100000 in
set_option maxHeartbeats 2000000 in
theorem refSave_none (A0 : Option Addr) (c0 : Nat) (l0 : List Int) (A1 : Option Addr) (c1 : Nat) (l1 : List S40) (w : World) (hr0 : Kd.C (Kd.int .u8) w A0 l0.length l0) (hc0 : l0.length ≤ c0) (hr1 : Kd.C k40 w A1 l1.length l1) (hc1 : l1.length ≤ c1) (hb : IsBytes l0) (hll : l0.length ≤ 9223372036854775807) (hd : diskF l0 = none) :
  Calls Tryz.prog 10 #[.slice A0 l0.length c0, .slice A1 l1.length c1] w fun e w' => ∃ v0_ : Value, e = .returned (.tuple #[v0_, .int .i64 (200)]) ∧ Kd.R k42 42 w' w.heap.size (fun _ => True) v0_ ([]) ∧ Below w.heap.size w w' := by
 have HR := Aside0.mk hr0
 have HL := Aside0.mk hr1
 clear hr0 hr1
 obtain ⟨⟨r1, r2, r3, r4, r5⟩, hr, ho⟩ := open_ref l0 hb hll
 unfold OpenRef at ho
 rw [hd] at ho
 obtain rfl : r5 = false := ho
 have HO := Aside0.mk hr
 clear hr hd hb
 go_enter Tryz.func10, Tryz.ntmps10
 go_wp2_with fail
 refine (berylref20_open.calls A0 c0 l0 r1 r2 r3 r4 false w HR.out hc0 HO.out).mono ?_
 rintro e w1 ⟨v2, v3, rfl, h2, h3, hB1⟩
 obtain ⟨A2, c2, rfl⟩ := Kd.R_slice h2
 obtain ⟨A3, c3, rfl⟩ := Kd.S_slice h3
 have HB1 := Aside0.mk hB1
 clear h2 h3 hB1
 go_wp2_with (((with_reducible refine gate_dst (N := 6) rfl ?_); refine box_event ?hg (N := 6) ?hd (cs := #[.int .i64 0, .int .i64 0, .slice none 0 0, .slice none 0 0]) (t := 54) ?hr ?_; (case hd => rfl); (case hg => rfl); (case hr => first | (go_simp; done) | (go_simp; rfl)); intro gb hg wb hbox hbb; have BK := Aside0.mk hbox; have HG : Aside0 (w1.heap.size ≤ gb) := ⟨by rw [hg]; exact Nat.le_refl _⟩; have HBB := Aside0.mk hbb; obtain ⟨hz0, hz1, hz2, hz3, hf0, hf1, hf2, hf3⟩ := four_cells BK.out; clear hg hbox hbb))
 go_returns
 exact ⟨_, rfl, Kd.R_nil _ _ _ _ _, HB1.out.trans ((below_set (below_set (below_set (below_set HBB.out HG.out) HG.out) HG.out) HG.out).mono HB1.out.size)⟩
set_option maxRecDepth 100000 in
set_option maxHeartbeats 2000000 in
theorem refSave_bad (A0 : Option Addr) (c0 : Nat) (l0 : List Int) (A1 : Option Addr) (c1 : Nat) (l1 : List S40) (w : World) (hr0 : Kd.C (Kd.int .u8) w A0 l0.length l0) (hc0 : l0.length ≤ c0) (hr1 : Kd.C k40 w A1 l1.length l1) (hc1 : l1.length ≤ c1) (hb : IsBytes l0) (hll : l0.length ≤ 9223372036854775807) {j : Nat} {st : HSt} (hd : diskF l0 = some (j, st)) (hl : l1.length ≤ 100000000) (ha : askedF l1 ≠ 0) :
  Calls Tryz.prog 10 #[.slice A0 l0.length c0, .slice A1 l1.length c1] w fun e w' => ∃ v0_ : Value, e = .returned (.tuple #[v0_, .int .i64 (1)]) ∧ Kd.R k42 42 w' w.heap.size (fun _ => True) v0_ ([]) ∧ Below w.heap.size w w' := by
 have HR := Aside0.mk hr0
 have HL := Aside0.mk hr1
 clear hr0 hr1
 obtain ⟨r, hr, ho⟩ := open_ref l0 hb hll
 unfold OpenRef at ho
 rw [hd] at ho
 obtain ⟨rfl, hu⟩ := ho
 have HO := Aside0.mk hr
 have HU := Aside0.mk hu
 have HD := Aside0.mk hd
 have HRI := Aside0.mk (disk_asked0 hb hd)
 have HLN := Aside0.mk (disk_recs hd)
 clear hr hu hd hb
 have hrk := right_k l1 (by omega) (l1.length + 1) (by omega)
 have HRK : Aside0 (berylref20_right.f (l1.length + 1) l1 = some false) := ⟨by rw [hrk]; simp [ha]⟩
 clear hrk ha
 go_enter Tryz.func10, Tryz.ntmps10
 go_wp2_with fail
 refine (berylref20_open.calls A0 c0 l0 (j : Int) st.ver (castL st.used) st.recs true w HR.out hc0 HO.out).mono ?_
 rintro e w1 ⟨v2, v3, rfl, h2, h3, hB1⟩
 obtain ⟨A2, c2, rfl⟩ := Kd.R_slice h2
 obtain ⟨A3, c3, rfl⟩ := Kd.S_slice h3
 obtain ⟨_, hc2, hC2⟩ := Kd.R_reads' h2
 obtain ⟨_, hc3, hC3⟩ := Kd.S_reads' h3
 have HB1 := Aside0.mk hB1
 have HC2 := Aside0.mk hC2
 have HC3 := Aside0.mk hC3
 clear h2 h3 hB1 hC2 hC3
 go_wp2_with (((with_reducible refine gate_dst (N := 6) rfl ?_); refine box_event ?hg (N := 6) ?hd (cs := #[.int .i64 0, .int .i64 0, .slice none 0 0, .slice none 0 0]) (t := 54) ?hr ?_; (case hd => rfl); (case hg => rfl); (case hr => first | (go_simp; done) | (go_simp; rfl)); intro gb hg wb hbox hbb; have BK := Aside0.mk hbox; have HG : Aside0 (w1.heap.size ≤ gb) := ⟨by rw [hg]; exact Nat.le_refl _⟩; have HBB := Aside0.mk hbb; obtain ⟨hz0, hz1, hz2, hz3, hf0, hf1, hf2, hf3⟩ := four_cells BK.out; clear hg hbox hbb))
 obtain ⟨W, hW⟩ : ∃ W, W = (((wb.setCell ⟨gb, 0, none⟩ (.int .i64 (j : Int))).setCell ⟨gb, 1, none⟩ (.int .i64 st.ver)).setCell ⟨gb, 2, none⟩ (.slice A2 (castL st.used).length c2)).setCell ⟨gb, 3, none⟩ (.slice A3 st.recs.length c3) := ⟨_, rfl⟩
 have hBW1 : Below w1.heap.size w1 W := by rw [hW]; exact below_set (below_set (below_set (below_set HBB.out HG.out) HG.out) HG.out) HG.out
 have hBK : W.heap[gb]? = some (.cells #[.int .i64 (j : Int), .int .i64 st.ver, .slice A2 (castL st.used).length c2, .slice A3 st.recs.length c3] 54 (0, 0)) := by
  rw [hW]; exact blk_put (blk_put (blk_put (blk_put BK.out 0 _ rfl) 1 _ rfl) 2 _ rfl) 3 _ rfl
 rw [← hW]
 replace HC2 := Aside0.mk (Kd.C_below HC2.out hBW1)
 replace HC3 := Aside0.mk (Kd.C_below HC3.out hBW1)
 replace HB1 : Aside0 (Below w.heap.size w W) := ⟨HB1.out.trans (hBW1.mono HB1.out.size)⟩
 have HBK := Aside0.mk hBK
 clear hW hBW1 hBK hz0 hz1 hz2 hz3 hf0 hf1 hf2 hf3 HBB HG BK
 refine (berylref20_right.calls (l1.length + 1) A1 c1 l1 false W (Kd.C_below HL.out HB1.out) hc1 HRK.out).mono ?_
 rintro e w' ⟨rfl, ⟨nd, rfl⟩⟩
 go_wp2_with fail
 go_returns
 exact ⟨_, rfl, Kd.R_nil _ _ _ _ _, pw_below_drewN HB1.out _⟩
set_option maxRecDepth 100000 in
set_option maxHeartbeats 2000000 in
theorem refSave_good (A0 : Option Addr) (c0 : Nat) (l0 : List Int) (A1 : Option Addr) (c1 : Nat) (l1 : List S40) (w : World) (hr0 : Kd.C (Kd.int .u8) w A0 l0.length l0) (hc0 : l0.length ≤ c0) (hr1 : Kd.C k40 w A1 l1.length l1) (hc1 : l1.length ≤ c1) (hb : IsBytes l0) (hll : l0.length ≤ 9223372036854775807) {j : Nat} {st : HSt} (hd : diskF l0 = some (j, st)) (hl : l1.length ≤ 100000000) (ha : askedF l1 = 0) :
  Calls Tryz.prog 10 #[.slice A0 l0.length c0, .slice A1 l1.length c1] w fun e w' => ∃ v0_ : Value, e = .returned (.tuple #[v0_, .int .i64 ((changeR l0 j st (savedL l1 st.recs)).2)]) ∧ Kd.R k42 42 w' w.heap.size (fun _ => True) v0_ ((changeR l0 j st (savedL l1 st.recs)).1) ∧ Below w.heap.size w w' := by
 have HR := Aside0.mk hr0
 have HL := Aside0.mk hr1
 clear hr0 hr1
 obtain ⟨r, hr, ho⟩ := open_ref l0 hb hll
 unfold OpenRef at ho
 rw [hd] at ho
 obtain ⟨rfl, hu⟩ := ho
 have HO := Aside0.mk hr
 have HU := Aside0.mk hu
 have HD := Aside0.mk hd
 have HRI := Aside0.mk (disk_asked0 hb hd)
 have HLN := Aside0.mk (disk_recs hd)
 clear hr hu hd hb
 have hrk := right_k l1 (by omega) (l1.length + 1) (by omega)
 have HRK : Aside0 (berylref20_right.f (l1.length + 1) l1 = some true) := ⟨by rw [hrk]; simp [ha]⟩
 have hm := merge_saved (asked_inc HRI.out).2 (asked_inc ha).2
 have hsa := saved_asked HRI.out ha
 have hsl : (savedL l1 st.recs).length ≤ 200000000 := by
  have := saveP_len (st.recs ++ l1)
  rw [List.length_append] at this
  have h2 := HLN.out
  unfold savedL
  omega
 have HM := Aside0.mk hm
 clear hrk ha hm
 have hwr := writes_ref l0 HD.out HU.out (savedL l1 st.recs) (by omega) (bytes_le (fun x hx => ((asked_inc hsa).1 x hx).2.2) (by omega)) (bodies_le hsa) ((savedL l1 st.recs).length + 3000) (Nat.le_refl _)
 have HWR := Aside0.mk hwr
 clear hwr hsa hsl
 go_enter Tryz.func10, Tryz.ntmps10
 go_wp2_with fail
 refine (berylref20_open.calls A0 c0 l0 (j : Int) st.ver (castL st.used) st.recs true w HR.out hc0 HO.out).mono ?_
 rintro e w1 ⟨v2, v3, rfl, h2, h3, hB1⟩
 obtain ⟨A2, c2, rfl⟩ := Kd.R_slice h2
 obtain ⟨A3, c3, rfl⟩ := Kd.S_slice h3
 obtain ⟨_, hc2, hC2⟩ := Kd.R_reads' h2
 obtain ⟨_, hc3, hC3⟩ := Kd.S_reads' h3
 have HB1 := Aside0.mk hB1
 have HC2 := Aside0.mk hC2
 have HC3 := Aside0.mk hC3
 clear h2 h3 hB1 hC2 hC3
 go_wp2_with (((with_reducible refine gate_dst (N := 6) rfl ?_); refine box_event ?hg (N := 6) ?hd (cs := #[.int .i64 0, .int .i64 0, .slice none 0 0, .slice none 0 0]) (t := 54) ?hr ?_; (case hd => rfl); (case hg => rfl); (case hr => first | (go_simp; done) | (go_simp; rfl)); intro gb hg wb hbox hbb; have BK := Aside0.mk hbox; have HG : Aside0 (w1.heap.size ≤ gb) := ⟨by rw [hg]; exact Nat.le_refl _⟩; have HBB := Aside0.mk hbb; obtain ⟨hz0, hz1, hz2, hz3, hf0, hf1, hf2, hf3⟩ := four_cells BK.out; clear hg hbox hbb))
 obtain ⟨W, hW⟩ : ∃ W, W = (((wb.setCell ⟨gb, 0, none⟩ (.int .i64 (j : Int))).setCell ⟨gb, 1, none⟩ (.int .i64 st.ver)).setCell ⟨gb, 2, none⟩ (.slice A2 (castL st.used).length c2)).setCell ⟨gb, 3, none⟩ (.slice A3 st.recs.length c3) := ⟨_, rfl⟩
 have hBW1 : Below w1.heap.size w1 W := by rw [hW]; exact below_set (below_set (below_set (below_set HBB.out HG.out) HG.out) HG.out) HG.out
 have hBK : W.heap[gb]? = some (.cells #[.int .i64 (j : Int), .int .i64 st.ver, .slice A2 (castL st.used).length c2, .slice A3 st.recs.length c3] 54 (0, 0)) := by
  rw [hW]; exact blk_put (blk_put (blk_put (blk_put BK.out 0 _ rfl) 1 _ rfl) 2 _ rfl) 3 _ rfl
 rw [← hW]
 replace HC2 := Aside0.mk (Kd.C_below HC2.out hBW1)
 replace HC3 := Aside0.mk (Kd.C_below HC3.out hBW1)
 replace HB1 : Aside0 (Below w.heap.size w W) := ⟨HB1.out.trans (hBW1.mono HB1.out.size)⟩
 have HBK := Aside0.mk hBK
 clear hW hBW1 hBK hz0 hz1 hz2 hz3 hf0 hf1 hf2 hf3 HBB HG BK
 refine (berylref20_right.calls (l1.length + 1) A1 c1 l1 true W (Kd.C_below HL.out HB1.out) hc1 HRK.out).mono ?_
 rintro e w' ⟨rfl, ⟨nd, rfl⟩⟩
 obtain ⟨W2, hW2⟩ : ∃ W2, W2 = W.drewN nd := ⟨_, rfl⟩
 have hB : Below W.heap.size W W2 := by rw [hW2]; exact pw_below_drewN (Below.refl _ _) _
 rw [← hW2]
 replace HC2 := Aside0.mk (Kd.C_below HC2.out hB)
 replace HC3 := Aside0.mk (Kd.C_below HC3.out hB)
 replace HBK := Aside0.mk (blk_below HBK.out hB)
 replace HB1 : Aside0 (Below w.heap.size w W2) := ⟨HB1.out.trans (hB.mono HB1.out.size)⟩
 clear hW2 hB HRK
 have hq3 := (blk_cell HBK.out 3).trans rfl
 go_wp2_with fail
 refine (merged_P A3 c3 st.recs A1 c1 l1 W2 HC3.out hc3 (Kd.C_below HL.out HB1.out) hc1 (by have := HLN.out; omega)).mono ?_
 rw [HM.out]
 rintro e W3 ⟨A4, c4, rfl, hc4, hC4, hB⟩
 replace HC2 := Aside0.mk (Kd.C_below HC2.out hB)
 replace HC3 := Aside0.mk (Kd.C_below HC3.out hB)
 replace HBK := Aside0.mk (blk_below HBK.out hB)
 replace HB1 : Aside0 (Below w.heap.size w W3) := ⟨HB1.out.trans (hB.mono HB1.out.size)⟩
 have HC4 := Aside0.mk hC4
 clear hB hC4 hq3
 have hq0 : W3.cell? ⟨gb, 0, none⟩ = some (.int .i64 (j : Int)) := (blk_cell HBK.out 0).trans rfl
 have hq1 : W3.cell? ⟨gb, 1, none⟩ = some (.int .i64 st.ver) := (blk_cell HBK.out 1).trans rfl
 have hq2 : W3.cell? ⟨gb, 2, none⟩ = some (.slice A2 (castL st.used).length c2) := (blk_cell HBK.out 2).trans rfl
 have hq3 : W3.cell? ⟨gb, 3, none⟩ = some (.slice A3 st.recs.length c3) := (blk_cell HBK.out 3).trans rfl
 have hu54 := Tryz.underlying54
 go_wp2_with fail
 refine (berylref20_writes.calls ((savedL l1 st.recs).length + 3000) A0 c0 l0 (j : Int) st.ver A2 c2 (castL st.used) A3 c3 st.recs A4 c4 (savedL l1 st.recs) (changeR l0 j st (savedL l1 st.recs)).1 (changeR l0 j st (savedL l1 st.recs)).2 W3 (Kd.C_below HR.out HB1.out) hc0 HC2.out hc2 HC3.out hc3 HC4.out hc4 HWR.out).mono ?_
 rintro e W4 ⟨v, rfl, hR, hB⟩
 have HV := Aside0.mk (Kd.S_R hR)
 have HB2 := Aside0.mk hB
 clear hR hB
 go_wp2_with fail
 go_returns
 exact ⟨v, rfl, Kd.R_lower HV.out HB1.out.size, HB1.out.trans (HB2.out.mono HB1.out.size)⟩
theorem berylref20_Save.calls (A0 : Option Addr) (c0 : Nat) (l0 : List Int) (A1 : Option Addr) (c1 : Nat) (l1 : List S40) (r1 : List S42) (r2 : Int) (w : World) (hr0 : Kd.C (Kd.int .u8) w A0 l0.length l0) (hc0 : l0.length ≤ c0)
  (hr1 : Kd.C k40 w A1 l1.length l1) (hc1 : l1.length ≤ c1) (h : berylref20_Save.f l0 l1 = some (r1, r2)) :
  Calls Tryz.prog 10 #[.slice A0 l0.length c0, .slice A1 l1.length c1] w fun e w' => ∃ v0_ : Value, e = .returned (.tuple #[v0_, .int .i64 r2]) ∧ Kd.R k42 42 w' w.heap.size (fun _ => True) v0_ r1 ∧ Below w.heap.size w w' := by
 unfold berylref20_Save.f disk_Save.f at h
 by_cases hll : l0.length ≤ 9223372036854775807
 rotate_left
 ·rw [if_neg hll] at h; cases h
 rw [if_pos hll] at h
 by_cases hb : IsBytes l0 ∧ l1.length ≤ 100000000
 rotate_left
 ·rw [if_neg hb] at h; cases h
 rw [if_pos hb] at h
 have hh := Option.some.inj h
 unfold writeG at hh
 cases hd : diskF l0 with
 | none =>
  rw [hd] at hh
  cases hh
  exact refSave_none A0 c0 l0 A1 c1 l1 w hr0 hc0 hr1 hc1 hb.1 hll hd
 | some q =>
  obtain ⟨j, st⟩ := q
  rw [hd] at hh
  simp only at hh
  by_cases ha : askedF l1 = 0
  ·rw [if_pos ha] at hh
   have e1 : r1 = (changeR l0 j st (savedL l1 st.recs)).1 := by rw [hh]
   have e2 : r2 = (changeR l0 j st (savedL l1 st.recs)).2 := by rw [hh]
   rw [e1, e2]
   exact refSave_good A0 c0 l0 A1 c1 l1 w hr0 hc0 hr1 hc1 hb.1 hll hd hb.2 ha
  ·rw [if_neg ha] at hh
   have hv := (asked_vals l1 none).resolve_left ha
   have hv2 : askedF l1 = 1 := hv
   rw [hv2] at hh
   cases hh
   exact refSave_bad A0 c0 l0 A1 c1 l1 w hr0 hc0 hr1 hc1 hb.1 hll hd hb.2 ha
def berylref20_Drop.f (l0 : List Int) (l1 : List Int) : Option (List S42 × Int) := if l0.length ≤ 9223372036854775807 then disk_Drop.f l0 l1 else none
set_option maxRecDepth 100000 in
set_option maxHeartbeats 2000000 in
theorem refDrop_none (A0 : Option Addr) (c0 : Nat) (l0 : List Int) (A1 : Option Addr) (c1 : Nat) (l1 : List Int) (w : World) (hr0 : Kd.C (Kd.int .u8) w A0 l0.length l0) (hc0 : l0.length ≤ c0) (hr1 : Kd.C (Kd.int .i64) w A1 l1.length l1) (hc1 : l1.length ≤ c1) (hb : IsBytes l0) (hll : l0.length ≤ 9223372036854775807) (hd : diskF l0 = none) :
  Calls Tryz.prog 13 #[.slice A0 l0.length c0, .slice A1 l1.length c1] w fun e w' => ∃ v0_ : Value, e = .returned (.tuple #[v0_, .int .i64 (200)]) ∧ Kd.R k42 42 w' w.heap.size (fun _ => True) v0_ ([]) ∧ Below w.heap.size w w' := by
 have HR := Aside0.mk hr0
 have HL := Aside0.mk hr1
 clear hr0 hr1
 obtain ⟨⟨r1, r2, r3, r4, r5⟩, hr, ho⟩ := open_ref l0 hb hll
 unfold OpenRef at ho
 rw [hd] at ho
 obtain rfl : r5 = false := ho
 have HO := Aside0.mk hr
 clear hr hd hb
 go_enter Tryz.func13, Tryz.ntmps13
 go_wp2_with fail
 refine (berylref20_open.calls A0 c0 l0 r1 r2 r3 r4 false w HR.out hc0 HO.out).mono ?_
 rintro e w1 ⟨v2, v3, rfl, h2, h3, hB1⟩
 obtain ⟨A2, c2, rfl⟩ := Kd.R_slice h2
 obtain ⟨A3, c3, rfl⟩ := Kd.S_slice h3
 have HB1 := Aside0.mk hB1
 clear h2 h3 hB1
 go_wp2_with (((with_reducible refine gate_dst (N := 6) rfl ?_); refine box_event ?hg (N := 6) ?hd (cs := #[.int .i64 0, .int .i64 0, .slice none 0 0, .slice none 0 0]) (t := 54) ?hr ?_; (case hd => rfl); (case hg => rfl); (case hr => first | (go_simp; done) | (go_simp; rfl)); intro gb hg wb hbox hbb; have BK := Aside0.mk hbox; have HG : Aside0 (w1.heap.size ≤ gb) := ⟨by rw [hg]; exact Nat.le_refl _⟩; have HBB := Aside0.mk hbb; obtain ⟨hz0, hz1, hz2, hz3, hf0, hf1, hf2, hf3⟩ := four_cells BK.out; clear hg hbox hbb))
 go_returns
 exact ⟨_, rfl, Kd.R_nil _ _ _ _ _, HB1.out.trans ((below_set (below_set (below_set (below_set HBB.out HG.out) HG.out) HG.out) HG.out).mono HB1.out.size)⟩
set_option maxRecDepth 100000 in
set_option maxHeartbeats 2000000 in
theorem refDrop_good (A0 : Option Addr) (c0 : Nat) (l0 : List Int) (A1 : Option Addr) (c1 : Nat) (l1 : List Int) (w : World) (hr0 : Kd.C (Kd.int .u8) w A0 l0.length l0) (hc0 : l0.length ≤ c0) (hr1 : Kd.C (Kd.int .i64) w A1 l1.length l1) (hc1 : l1.length ≤ c1) (hb : IsBytes l0) (hll : l0.length ≤ 9223372036854775807) {j : Nat} {st : HSt} (hd : diskF l0 = some (j, st)) (hl : l1.length ≤ 1000000000) :
  Calls Tryz.prog 13 #[.slice A0 l0.length c0, .slice A1 l1.length c1] w fun e w' => ∃ v0_ : Value, e = .returned (.tuple #[v0_, .int .i64 ((changeR l0 j st (leftL l1 st.recs)).2)]) ∧ Kd.R k42 42 w' w.heap.size (fun _ => True) v0_ ((changeR l0 j st (leftL l1 st.recs)).1) ∧ Below w.heap.size w w' := by
 have HR := Aside0.mk hr0
 have HL := Aside0.mk hr1
 clear hr0 hr1
 obtain ⟨r, hr, ho⟩ := open_ref l0 hb hll
 unfold OpenRef at ho
 rw [hd] at ho
 obtain ⟨rfl, hu⟩ := ho
 have HO := Aside0.mk hr
 have HU := Aside0.mk hu
 have HD := Aside0.mk hd
 have HRI := Aside0.mk (disk_asked0 hb hd)
 have HLN := Aside0.mk (disk_recs hd)
 clear hr hu hd hb
 have hsa := left_asked HRI.out l1
 have hsl : (leftL l1 st.recs).length ≤ 200000000 := by
  have := List.length_filter_le (fun r : S40 => !l1.contains r.f0) st.recs
  have h2 := HLN.out
  unfold leftL
  omega
 have hwr := writes_ref l0 HD.out HU.out (leftL l1 st.recs) (by omega) (bytes_le (fun x hx => ((asked_inc hsa).1 x hx).2.2) (by omega)) (bodies_le hsa) ((leftL l1 st.recs).length + 3000) (Nat.le_refl _)
 have HWR := Aside0.mk hwr
 clear hwr hsa hsl
 go_enter Tryz.func13, Tryz.ntmps13
 go_wp2_with fail
 refine (berylref20_open.calls A0 c0 l0 (j : Int) st.ver (castL st.used) st.recs true w HR.out hc0 HO.out).mono ?_
 rintro e w1 ⟨v2, v3, rfl, h2, h3, hB1⟩
 obtain ⟨A2, c2, rfl⟩ := Kd.R_slice h2
 obtain ⟨A3, c3, rfl⟩ := Kd.S_slice h3
 obtain ⟨_, hc2, hC2⟩ := Kd.R_reads' h2
 obtain ⟨_, hc3, hC3⟩ := Kd.S_reads' h3
 have HB1 := Aside0.mk hB1
 have HC2 := Aside0.mk hC2
 have HC3 := Aside0.mk hC3
 clear h2 h3 hB1 hC2 hC3
 go_wp2_with (((with_reducible refine gate_dst (N := 6) rfl ?_); refine box_event ?hg (N := 6) ?hd (cs := #[.int .i64 0, .int .i64 0, .slice none 0 0, .slice none 0 0]) (t := 54) ?hr ?_; (case hd => rfl); (case hg => rfl); (case hr => first | (go_simp; done) | (go_simp; rfl)); intro gb hg wb hbox hbb; have BK := Aside0.mk hbox; have HG : Aside0 (w1.heap.size ≤ gb) := ⟨by rw [hg]; exact Nat.le_refl _⟩; have HBB := Aside0.mk hbb; obtain ⟨hz0, hz1, hz2, hz3, hf0, hf1, hf2, hf3⟩ := four_cells BK.out; clear hg hbox hbb))
 obtain ⟨W, hW⟩ : ∃ W, W = (((wb.setCell ⟨gb, 0, none⟩ (.int .i64 (j : Int))).setCell ⟨gb, 1, none⟩ (.int .i64 st.ver)).setCell ⟨gb, 2, none⟩ (.slice A2 (castL st.used).length c2)).setCell ⟨gb, 3, none⟩ (.slice A3 st.recs.length c3) := ⟨_, rfl⟩
 have hBW1 : Below w1.heap.size w1 W := by rw [hW]; exact below_set (below_set (below_set (below_set HBB.out HG.out) HG.out) HG.out) HG.out
 have hBK : W.heap[gb]? = some (.cells #[.int .i64 (j : Int), .int .i64 st.ver, .slice A2 (castL st.used).length c2, .slice A3 st.recs.length c3] 54 (0, 0)) := by
  rw [hW]; exact blk_put (blk_put (blk_put (blk_put BK.out 0 _ rfl) 1 _ rfl) 2 _ rfl) 3 _ rfl
 rw [← hW]
 replace HC2 := Aside0.mk (Kd.C_below HC2.out hBW1)
 replace HC3 := Aside0.mk (Kd.C_below HC3.out hBW1)
 replace HB1 : Aside0 (Below w.heap.size w W) := ⟨HB1.out.trans (hBW1.mono HB1.out.size)⟩
 have HBK := Aside0.mk hBK
 clear hW hBW1 hBK hz0 hz1 hz2 hz3 hf0 hf1 hf2 hf3 HBB HG BK
 obtain ⟨W2, hW2⟩ : ∃ W2, W2 = W := ⟨_, rfl⟩
 rw [← hW2] at HC2 HC3 HBK HB1 ⊢
 refine (without_P A3 c3 st.recs A1 c1 l1 W2 HC3.out hc3 (Kd.C_below HL.out HB1.out) hc1 (by have := HLN.out; omega) hl).mono ?_
 rintro e W3 ⟨A4, c4, rfl, hc4, hC4, hB⟩
 replace HC2 := Aside0.mk (Kd.C_below HC2.out hB)
 replace HC3 := Aside0.mk (Kd.C_below HC3.out hB)
 replace HBK := Aside0.mk (blk_below HBK.out hB)
 replace HB1 : Aside0 (Below w.heap.size w W3) := ⟨HB1.out.trans (hB.mono HB1.out.size)⟩
 have HC4 := Aside0.mk hC4
 clear hB hC4
 have hq0 : W3.cell? ⟨gb, 0, none⟩ = some (.int .i64 (j : Int)) := (blk_cell HBK.out 0).trans rfl
 have hq1 : W3.cell? ⟨gb, 1, none⟩ = some (.int .i64 st.ver) := (blk_cell HBK.out 1).trans rfl
 have hq2 : W3.cell? ⟨gb, 2, none⟩ = some (.slice A2 (castL st.used).length c2) := (blk_cell HBK.out 2).trans rfl
 have hq3 : W3.cell? ⟨gb, 3, none⟩ = some (.slice A3 st.recs.length c3) := (blk_cell HBK.out 3).trans rfl
 have hu54 := Tryz.underlying54
 go_wp2_with fail
 refine (berylref20_writes.calls ((leftL l1 st.recs).length + 3000) A0 c0 l0 (j : Int) st.ver A2 c2 (castL st.used) A3 c3 st.recs A4 c4 (leftL l1 st.recs) (changeR l0 j st (leftL l1 st.recs)).1 (changeR l0 j st (leftL l1 st.recs)).2 W3 (Kd.C_below HR.out HB1.out) hc0 HC2.out hc2 HC3.out hc3 HC4.out hc4 HWR.out).mono ?_
 rintro e W4 ⟨v, rfl, hR, hB⟩
 have HV := Aside0.mk (Kd.S_R hR)
 have HB2 := Aside0.mk hB
 clear hR hB
 go_wp2_with fail
 go_returns
 exact ⟨v, rfl, Kd.R_lower HV.out HB1.out.size, HB1.out.trans (HB2.out.mono HB1.out.size)⟩
theorem berylref20_Drop.calls (A0 : Option Addr) (c0 : Nat) (l0 : List Int) (A1 : Option Addr) (c1 : Nat) (l1 : List Int) (r1 : List S42) (r2 : Int) (w : World) (hr0 : Kd.C (Kd.int .u8) w A0 l0.length l0) (hc0 : l0.length ≤ c0)
  (hr1 : Kd.C (Kd.int .i64) w A1 l1.length l1) (hc1 : l1.length ≤ c1) (h : berylref20_Drop.f l0 l1 = some (r1, r2)) :
  Calls Tryz.prog 13 #[.slice A0 l0.length c0, .slice A1 l1.length c1] w fun e w' => ∃ v0_ : Value, e = .returned (.tuple #[v0_, .int .i64 r2]) ∧ Kd.R k42 42 w' w.heap.size (fun _ => True) v0_ r1 ∧ Below w.heap.size w w' := by
 unfold berylref20_Drop.f disk_Drop.f at h
 by_cases hll : l0.length ≤ 9223372036854775807
 rotate_left
 ·rw [if_neg hll] at h; cases h
 rw [if_pos hll] at h
 by_cases hb : IsBytes l0 ∧ l1.length ≤ 1000000000
 rotate_left
 ·rw [if_neg hb] at h; cases h
 rw [if_pos hb] at h
 have hh := Option.some.inj h
 unfold writeG at hh
 cases hd : diskF l0 with
 | none =>
  rw [hd] at hh
  cases hh
  exact refDrop_none A0 c0 l0 A1 c1 l1 w hr0 hc0 hr1 hc1 hb.1 hll hd
 | some q =>
  obtain ⟨j, st⟩ := q
  rw [hd] at hh
  simp only at hh
  by_cases ha : askedF [] = 0
  ·rw [if_pos ha] at hh
   have e1 : r1 = (changeR l0 j st (leftL l1 st.recs)).1 := by rw [hh]
   have e2 : r2 = (changeR l0 j st (leftL l1 st.recs)).2 := by rw [hh]
   rw [e1, e2]
   exact refDrop_good A0 c0 l0 A1 c1 l1 w hr0 hc0 hr1 hc1 hb.1 hll hd hb.2
  ·exact absurd (askedR_nil none) ha
def berylref20_Write.f (l0 : List Int) (l1 : List S40) : Option (List S42 × Int) := if l0.length ≤ 9223372036854775807 ∧ l1.length ≤ 100000000 then disk_Write.f l0 l1 else none
set_option maxRecDepth 100000 in
set_option maxHeartbeats 2000000 in
theorem refWrite_none (A0 : Option Addr) (c0 : Nat) (l0 : List Int) (A1 : Option Addr) (c1 : Nat) (l1 : List S40) (w : World) (hr0 : Kd.C (Kd.int .u8) w A0 l0.length l0) (hc0 : l0.length ≤ c0) (hr1 : Kd.C k40 w A1 l1.length l1) (hc1 : l1.length ≤ c1) (hb : IsBytes l0) (hll : l0.length ≤ 9223372036854775807) (hd : diskF l0 = none) :
  Calls Tryz.prog 8 #[.slice A0 l0.length c0, .slice A1 l1.length c1] w fun e w' => ∃ v0_ : Value, e = .returned (.tuple #[v0_, .int .i64 (200)]) ∧ Kd.R k42 42 w' w.heap.size (fun _ => True) v0_ ([]) ∧ Below w.heap.size w w' := by
 have HR := Aside0.mk hr0
 have HL := Aside0.mk hr1
 clear hr0 hr1
 obtain ⟨⟨r1, r2, r3, r4, r5⟩, hr, ho⟩ := open_ref l0 hb hll
 unfold OpenRef at ho
 rw [hd] at ho
 obtain rfl : r5 = false := ho
 have HO := Aside0.mk hr
 clear hr hd hb
 go_enter Tryz.func8, Tryz.ntmps8
 go_wp2_with fail
 refine (berylref20_open.calls A0 c0 l0 r1 r2 r3 r4 false w HR.out hc0 HO.out).mono ?_
 rintro e w1 ⟨v2, v3, rfl, h2, h3, hB1⟩
 obtain ⟨A2, c2, rfl⟩ := Kd.R_slice h2
 obtain ⟨A3, c3, rfl⟩ := Kd.S_slice h3
 have HB1 := Aside0.mk hB1
 clear h2 h3 hB1
 go_wp2_with (((with_reducible refine gate_dst (N := 6) rfl ?_); refine box_event ?hg (N := 6) ?hd (cs := #[.int .i64 0, .int .i64 0, .slice none 0 0, .slice none 0 0]) (t := 54) ?hr ?_; (case hd => rfl); (case hg => rfl); (case hr => first | (go_simp; done) | (go_simp; rfl)); intro gb hg wb hbox hbb; have BK := Aside0.mk hbox; have HG : Aside0 (w1.heap.size ≤ gb) := ⟨by rw [hg]; exact Nat.le_refl _⟩; have HBB := Aside0.mk hbb; obtain ⟨hz0, hz1, hz2, hz3, hf0, hf1, hf2, hf3⟩ := four_cells BK.out; clear hg hbox hbb))
 go_returns
 exact ⟨_, rfl, Kd.R_nil _ _ _ _ _, HB1.out.trans ((below_set (below_set (below_set (below_set HBB.out HG.out) HG.out) HG.out) HG.out).mono HB1.out.size)⟩
set_option maxRecDepth 100000 in
set_option maxHeartbeats 2000000 in
theorem refWrite_bad (A0 : Option Addr) (c0 : Nat) (l0 : List Int) (A1 : Option Addr) (c1 : Nat) (l1 : List S40) (w : World) (hr0 : Kd.C (Kd.int .u8) w A0 l0.length l0) (hc0 : l0.length ≤ c0) (hr1 : Kd.C k40 w A1 l1.length l1) (hc1 : l1.length ≤ c1) (hb : IsBytes l0) (hll : l0.length ≤ 9223372036854775807) {j : Nat} {st : HSt} (hd : diskF l0 = some (j, st)) (hl : l1.length ≤ 100000000) (ha : askedF l1 ≠ 0) :
  Calls Tryz.prog 8 #[.slice A0 l0.length c0, .slice A1 l1.length c1] w fun e w' => ∃ v0_ : Value, e = .returned (.tuple #[v0_, .int .i64 (1)]) ∧ Kd.R k42 42 w' w.heap.size (fun _ => True) v0_ ([]) ∧ Below w.heap.size w w' := by
 have HR := Aside0.mk hr0
 have HL := Aside0.mk hr1
 clear hr0 hr1
 obtain ⟨r, hr, ho⟩ := open_ref l0 hb hll
 unfold OpenRef at ho
 rw [hd] at ho
 obtain ⟨rfl, hu⟩ := ho
 have HO := Aside0.mk hr
 have HU := Aside0.mk hu
 have HD := Aside0.mk hd
 have HRI := Aside0.mk (disk_asked0 hb hd)
 have HLN := Aside0.mk (disk_recs hd)
 clear hr hu hd hb
 have hrk := right_k l1 (by omega) (l1.length + 1) (by omega)
 have HRK : Aside0 (berylref20_right.f (l1.length + 1) l1 = some false) := ⟨by rw [hrk]; simp [ha]⟩
 clear hrk ha
 go_enter Tryz.func8, Tryz.ntmps8
 go_wp2_with fail
 refine (berylref20_open.calls A0 c0 l0 (j : Int) st.ver (castL st.used) st.recs true w HR.out hc0 HO.out).mono ?_
 rintro e w1 ⟨v2, v3, rfl, h2, h3, hB1⟩
 obtain ⟨A2, c2, rfl⟩ := Kd.R_slice h2
 obtain ⟨A3, c3, rfl⟩ := Kd.S_slice h3
 obtain ⟨_, hc2, hC2⟩ := Kd.R_reads' h2
 obtain ⟨_, hc3, hC3⟩ := Kd.S_reads' h3
 have HB1 := Aside0.mk hB1
 have HC2 := Aside0.mk hC2
 have HC3 := Aside0.mk hC3
 clear h2 h3 hB1 hC2 hC3
 go_wp2_with (((with_reducible refine gate_dst (N := 6) rfl ?_); refine box_event ?hg (N := 6) ?hd (cs := #[.int .i64 0, .int .i64 0, .slice none 0 0, .slice none 0 0]) (t := 54) ?hr ?_; (case hd => rfl); (case hg => rfl); (case hr => first | (go_simp; done) | (go_simp; rfl)); intro gb hg wb hbox hbb; have BK := Aside0.mk hbox; have HG : Aside0 (w1.heap.size ≤ gb) := ⟨by rw [hg]; exact Nat.le_refl _⟩; have HBB := Aside0.mk hbb; obtain ⟨hz0, hz1, hz2, hz3, hf0, hf1, hf2, hf3⟩ := four_cells BK.out; clear hg hbox hbb))
 obtain ⟨W, hW⟩ : ∃ W, W = (((wb.setCell ⟨gb, 0, none⟩ (.int .i64 (j : Int))).setCell ⟨gb, 1, none⟩ (.int .i64 st.ver)).setCell ⟨gb, 2, none⟩ (.slice A2 (castL st.used).length c2)).setCell ⟨gb, 3, none⟩ (.slice A3 st.recs.length c3) := ⟨_, rfl⟩
 have hBW1 : Below w1.heap.size w1 W := by rw [hW]; exact below_set (below_set (below_set (below_set HBB.out HG.out) HG.out) HG.out) HG.out
 have hBK : W.heap[gb]? = some (.cells #[.int .i64 (j : Int), .int .i64 st.ver, .slice A2 (castL st.used).length c2, .slice A3 st.recs.length c3] 54 (0, 0)) := by
  rw [hW]; exact blk_put (blk_put (blk_put (blk_put BK.out 0 _ rfl) 1 _ rfl) 2 _ rfl) 3 _ rfl
 rw [← hW]
 replace HC2 := Aside0.mk (Kd.C_below HC2.out hBW1)
 replace HC3 := Aside0.mk (Kd.C_below HC3.out hBW1)
 replace HB1 : Aside0 (Below w.heap.size w W) := ⟨HB1.out.trans (hBW1.mono HB1.out.size)⟩
 have HBK := Aside0.mk hBK
 clear hW hBW1 hBK hz0 hz1 hz2 hz3 hf0 hf1 hf2 hf3 HBB HG BK
 refine (berylref20_right.calls (l1.length + 1) A1 c1 l1 false W (Kd.C_below HL.out HB1.out) hc1 HRK.out).mono ?_
 rintro e w' ⟨rfl, ⟨nd, rfl⟩⟩
 go_wp2_with fail
 go_returns
 exact ⟨_, rfl, Kd.R_nil _ _ _ _ _, pw_below_drewN HB1.out _⟩
set_option maxRecDepth 100000 in
set_option maxHeartbeats 2000000 in
theorem refWrite_good (A0 : Option Addr) (c0 : Nat) (l0 : List Int) (A1 : Option Addr) (c1 : Nat) (l1 : List S40) (w : World) (hr0 : Kd.C (Kd.int .u8) w A0 l0.length l0) (hc0 : l0.length ≤ c0) (hr1 : Kd.C k40 w A1 l1.length l1) (hc1 : l1.length ≤ c1) (hb : IsBytes l0) (hll : l0.length ≤ 9223372036854775807) {j : Nat} {st : HSt} (hd : diskF l0 = some (j, st)) (hl : l1.length ≤ 100000000) (ha : askedF l1 = 0) :
  Calls Tryz.prog 8 #[.slice A0 l0.length c0, .slice A1 l1.length c1] w fun e w' => ∃ v0_ : Value, e = .returned (.tuple #[v0_, .int .i64 ((changeR l0 j st l1).2)]) ∧ Kd.R k42 42 w' w.heap.size (fun _ => True) v0_ ((changeR l0 j st l1).1) ∧ Below w.heap.size w w' := by
 have HR := Aside0.mk hr0
 have HL := Aside0.mk hr1
 clear hr0 hr1
 obtain ⟨r, hr, ho⟩ := open_ref l0 hb hll
 unfold OpenRef at ho
 rw [hd] at ho
 obtain ⟨rfl, hu⟩ := ho
 have HO := Aside0.mk hr
 have HU := Aside0.mk hu
 have HD := Aside0.mk hd
 have HRI := Aside0.mk (disk_asked0 hb hd)
 have HLN := Aside0.mk (disk_recs hd)
 clear hr hu hd hb
 have hrk := right_k l1 (by omega) (l1.length + 1) (by omega)
 have HRK : Aside0 (berylref20_right.f (l1.length + 1) l1 = some true) := ⟨by rw [hrk]; simp [ha]⟩
 have hsa := ha
 clear hrk ha
 have hwr := writes_ref l0 HD.out HU.out l1 (by omega) (bytes_le (fun x hx => ((asked_inc hsa).1 x hx).2.2) (by omega)) (bodies_le hsa) (l1.length + 3000) (Nat.le_refl _)
 have HWR := Aside0.mk hwr
 clear hwr hsa
 go_enter Tryz.func8, Tryz.ntmps8
 go_wp2_with fail
 refine (berylref20_open.calls A0 c0 l0 (j : Int) st.ver (castL st.used) st.recs true w HR.out hc0 HO.out).mono ?_
 rintro e w1 ⟨v2, v3, rfl, h2, h3, hB1⟩
 obtain ⟨A2, c2, rfl⟩ := Kd.R_slice h2
 obtain ⟨A3, c3, rfl⟩ := Kd.S_slice h3
 obtain ⟨_, hc2, hC2⟩ := Kd.R_reads' h2
 obtain ⟨_, hc3, hC3⟩ := Kd.S_reads' h3
 have HB1 := Aside0.mk hB1
 have HC2 := Aside0.mk hC2
 have HC3 := Aside0.mk hC3
 clear h2 h3 hB1 hC2 hC3
 go_wp2_with (((with_reducible refine gate_dst (N := 6) rfl ?_); refine box_event ?hg (N := 6) ?hd (cs := #[.int .i64 0, .int .i64 0, .slice none 0 0, .slice none 0 0]) (t := 54) ?hr ?_; (case hd => rfl); (case hg => rfl); (case hr => first | (go_simp; done) | (go_simp; rfl)); intro gb hg wb hbox hbb; have BK := Aside0.mk hbox; have HG : Aside0 (w1.heap.size ≤ gb) := ⟨by rw [hg]; exact Nat.le_refl _⟩; have HBB := Aside0.mk hbb; obtain ⟨hz0, hz1, hz2, hz3, hf0, hf1, hf2, hf3⟩ := four_cells BK.out; clear hg hbox hbb))
 obtain ⟨W, hW⟩ : ∃ W, W = (((wb.setCell ⟨gb, 0, none⟩ (.int .i64 (j : Int))).setCell ⟨gb, 1, none⟩ (.int .i64 st.ver)).setCell ⟨gb, 2, none⟩ (.slice A2 (castL st.used).length c2)).setCell ⟨gb, 3, none⟩ (.slice A3 st.recs.length c3) := ⟨_, rfl⟩
 have hBW1 : Below w1.heap.size w1 W := by rw [hW]; exact below_set (below_set (below_set (below_set HBB.out HG.out) HG.out) HG.out) HG.out
 have hBK : W.heap[gb]? = some (.cells #[.int .i64 (j : Int), .int .i64 st.ver, .slice A2 (castL st.used).length c2, .slice A3 st.recs.length c3] 54 (0, 0)) := by
  rw [hW]; exact blk_put (blk_put (blk_put (blk_put BK.out 0 _ rfl) 1 _ rfl) 2 _ rfl) 3 _ rfl
 rw [← hW]
 replace HC2 := Aside0.mk (Kd.C_below HC2.out hBW1)
 replace HC3 := Aside0.mk (Kd.C_below HC3.out hBW1)
 replace HB1 : Aside0 (Below w.heap.size w W) := ⟨HB1.out.trans (hBW1.mono HB1.out.size)⟩
 have HBK := Aside0.mk hBK
 clear hW hBW1 hBK hz0 hz1 hz2 hz3 hf0 hf1 hf2 hf3 HBB HG BK
 refine (berylref20_right.calls (l1.length + 1) A1 c1 l1 true W (Kd.C_below HL.out HB1.out) hc1 HRK.out).mono ?_
 rintro e w' ⟨rfl, ⟨nd, rfl⟩⟩
 obtain ⟨W2, hW2⟩ : ∃ W2, W2 = W.drewN nd := ⟨_, rfl⟩
 have hB : Below W.heap.size W W2 := by rw [hW2]; exact pw_below_drewN (Below.refl _ _) _
 rw [← hW2]
 replace HC2 := Aside0.mk (Kd.C_below HC2.out hB)
 replace HC3 := Aside0.mk (Kd.C_below HC3.out hB)
 replace HBK := Aside0.mk (blk_below HBK.out hB)
 replace HB1 : Aside0 (Below w.heap.size w W2) := ⟨HB1.out.trans (hB.mono HB1.out.size)⟩
 clear hW2 hB HRK
 have hq0 : W2.cell? ⟨gb, 0, none⟩ = some (.int .i64 (j : Int)) := (blk_cell HBK.out 0).trans rfl
 have hq1 : W2.cell? ⟨gb, 1, none⟩ = some (.int .i64 st.ver) := (blk_cell HBK.out 1).trans rfl
 have hq2 : W2.cell? ⟨gb, 2, none⟩ = some (.slice A2 (castL st.used).length c2) := (blk_cell HBK.out 2).trans rfl
 have hq3 : W2.cell? ⟨gb, 3, none⟩ = some (.slice A3 st.recs.length c3) := (blk_cell HBK.out 3).trans rfl
 have hu54 := Tryz.underlying54
 go_wp2_with fail
 refine (berylref20_writes.calls (l1.length + 3000) A0 c0 l0 (j : Int) st.ver A2 c2 (castL st.used) A3 c3 st.recs A1 c1 l1 (changeR l0 j st l1).1 (changeR l0 j st l1).2 W2 (Kd.C_below HR.out HB1.out) hc0 HC2.out hc2 HC3.out hc3 (Kd.C_below HL.out HB1.out) hc1 HWR.out).mono ?_
 rintro e W4 ⟨v, rfl, hR, hB⟩
 have HV := Aside0.mk (Kd.S_R hR)
 have HB2 := Aside0.mk hB
 clear hR hB
 go_wp2_with fail
 go_returns
 exact ⟨v, rfl, Kd.R_lower HV.out HB1.out.size, HB1.out.trans (HB2.out.mono HB1.out.size)⟩
theorem berylref20_Write.calls (A0 : Option Addr) (c0 : Nat) (l0 : List Int) (A1 : Option Addr) (c1 : Nat) (l1 : List S40) (r1 : List S42) (r2 : Int) (w : World) (hr0 : Kd.C (Kd.int .u8) w A0 l0.length l0) (hc0 : l0.length ≤ c0)
  (hr1 : Kd.C k40 w A1 l1.length l1) (hc1 : l1.length ≤ c1) (h : berylref20_Write.f l0 l1 = some (r1, r2)) :
  Calls Tryz.prog 8 #[.slice A0 l0.length c0, .slice A1 l1.length c1] w fun e w' => ∃ v0_ : Value, e = .returned (.tuple #[v0_, .int .i64 r2]) ∧ Kd.R k42 42 w' w.heap.size (fun _ => True) v0_ r1 ∧ Below w.heap.size w w' := by
 unfold berylref20_Write.f disk_Write.f at h
 by_cases hll : l0.length ≤ 9223372036854775807 ∧ l1.length ≤ 100000000
 rotate_left
 ·rw [if_neg hll] at h; cases h
 rw [if_pos hll] at h
 by_cases hb : IsBytes l0 ∧ (recsB l1).length ≤ 70368744177664
 rotate_left
 ·rw [if_neg hb] at h; cases h
 rw [if_pos hb] at h
 have hh := Option.some.inj h
 unfold writeR at hh
 cases hd : diskF l0 with
 | none =>
  rw [hd] at hh
  cases hh
  exact refWrite_none A0 c0 l0 A1 c1 l1 w hr0 hc0 hr1 hc1 hb.1 hll.1 hd
 | some q =>
  obtain ⟨j, st⟩ := q
  rw [hd] at hh
  simp only at hh
  by_cases ha : askedF l1 = 0
  ·rw [if_pos ha] at hh
   have e1 : r1 = (changeR l0 j st l1).1 := by rw [hh]
   have e2 : r2 = (changeR l0 j st l1).2 := by rw [hh]
   rw [e1, e2]
   exact refWrite_good A0 c0 l0 A1 c1 l1 w hr0 hc0 hr1 hc1 hb.1 hll.1 hd hll.2 ha
  ·rw [if_neg ha] at hh
   have hv := (asked_vals l1 none).resolve_left ha
   have hv2 : askedF l1 = 1 := hv
   rw [hv2] at hh
   cases hh
   exact refWrite_bad A0 c0 l0 A1 c1 l1 w hr0 hc0 hr1 hc1 hb.1 hll.1 hd hll.2 ha
theorem wr_one (i : Nat) (h : i ≤ 9223372036854775806) : wrap64 ((i : Int) + 1) = ((i + 1 : Nat) : Int) := by unfold wrap64; omega
theorem wr_at (b : Int) (t : Nat) (h0 : 0 ≤ b) (h : b.toNat ≤ 1000000) (ht : t ≤ 1000000) : wrap64 (wrap64 (b * 64) + (t : Int)) = ((b.toNat * 64 + t : Nat) : Int) := by
 obtain ⟨n, rfl⟩ := Int.eq_ofNat_of_zero_le h0
 rw [Int.toNat_natCast] at h ⊢
 have e : wrap64 ((n : Int) * 64) = ((n * 64 : Nat) : Int) := by unfold wrap64; omega
 rw [e]
 clear e
 unfold wrap64
 omega
theorem rdW (l : List S42) (i : Nat) (h : i < l.length) : rd_T42 l (i : Int) = l[i] := by
 unfold rd_T42
 simp [List.getD_eq_getElem?_getD, List.getElem?_eq_getElem h]
theorem putF_nil (xs : List Int) (b : Int) : putF xs ⟨b, []⟩ = xs := by
 simp [putF]
theorem putF_at (xs : List Int) (n : Nat) (ys : List Int) (hn : n ≤ xs.length) (i : Nat) : (xs.take n ++ (ys ++ xs.drop (n + ys.length)))[i]? = if i < n then xs[i]? else if i - n < ys.length then ys[i - n]? else xs[i]? := by
 have h1 : (xs.take n).length = n := by rw [List.length_take]; omega
 by_cases c1 : i < n
 ·rw [if_pos c1, List.getElem?_append_left (by omega), List.getElem?_take_of_lt c1]
 ·rw [if_neg c1, List.getElem?_append_right (by omega), h1]
  by_cases c2 : i - n < ys.length
  ·rw [if_pos c2, List.getElem?_append_left c2]
  ·rw [if_neg c2, List.getElem?_append_right (by omega), List.getElem?_drop]
   congr 1
   omega
theorem putF_step (xs : List Int) (b : Int) (bs : List Int) (t : Nat) (ht : t < bs.length) (h : b.toNat * 64 + bs.length ≤ xs.length) :
  (putF xs ⟨b, bs.take t⟩).set (b.toNat * 64 + t) bs[t] = putF xs ⟨b, bs.take (t + 1)⟩ := by
 obtain ⟨n, hn⟩ : ∃ n, n = b.toNat * 64 := ⟨_, rfl⟩
 rw [← hn] at h ⊢
 have h2 : (bs.take t).length = t := by rw [List.length_take]; omega
 have h3 : (bs.take (t + 1)).length = t + 1 := by rw [List.length_take]; omega
 have h4 : (xs.take n ++ (bs.take t ++ xs.drop (n + (bs.take t).length))).length = xs.length := by
  rw [List.length_append, List.length_append, List.length_take, List.length_drop, h2]
  omega
 have key : (xs.take n ++ (bs.take t ++ xs.drop (n + (bs.take t).length))).set (n + t) bs[t] = xs.take n ++ (bs.take (t + 1) ++ xs.drop (n + (bs.take (t + 1)).length)) := by
  apply List.ext_getElem?
  intro i
  rw [List.getElem?_set, h4, putF_at xs n _ (by omega), putF_at xs n _ (by omega), h2, h3]
  by_cases c : n + t = i
  ·subst c
   rw [if_pos rfl, if_pos (by omega), if_neg (by omega), if_pos (by omega), show n + t - n = t by omega, List.getElem?_take_of_lt (by omega), List.getElem?_eq_getElem ht]
  ·rw [if_neg c]
   by_cases c1 : i < n
   ·rw [if_pos c1, if_pos c1]
   ·rw [if_neg c1, if_neg c1]
    by_cases c2 : i - n < t
    ·rw [if_pos c2, if_pos (by omega), List.getElem?_take_of_lt c2, List.getElem?_take_of_lt (by omega)]
    ·rw [if_neg c2, if_neg (by omega)]
 unfold putF
 simp only [← hn]
 exact key
theorem torn_l1 (l : List S42) (hl : l.length ≤ 9223372036854775807) (whole part : Int) (d : List Int) (hd : d.length ≤ 1000000) (i : Nat) (hi : i < l.length) (hp : PutOk d.length l[i]) (n : Nat) (hn : n ≤ l[i].f1.length) :
  ∀ (m t k : Nat), t + m = n → 0 < k →
  berylref20_Torn.l1 (k + m) l whole part (putF d ⟨l[i].f0, l[i].f1.take t⟩) (i : Int) (n : Int) (t : Int) = berylref20_Torn.l0 (k - 1) l whole part (putF d ⟨l[i].f0, l[i].f1.take n⟩) ((i + 1 : Nat) : Int) := by
 obtain ⟨h0, h1, h2⟩ := hp
 intro m
 induction m with
 | zero =>
  intro t k ht hk
  obtain ⟨k, rfl⟩ : ∃ j, k = j + 1 := ⟨k - 1, by omega⟩
  obtain rfl : t = n := by omega
  rw [Nat.add_zero, berylref20_Torn.l1, if_neg (by omega), wr_one i (by omega)]
  rfl
 | succ m ih =>
  intro t k ht hk
  have hlt : t < l[i].f1.length := by omega
  have hlen : (putF d ⟨l[i].f0, l[i].f1.take t⟩).length = d.length := by
   refine putF_len ⟨h0, h1, ?_⟩
   show (l[i].f1.take t).length ≤ 64
   rw [List.length_take]
   omega
  rw [show k + (m + 1) = (k + m) + 1 by omega, berylref20_Torn.l1, if_pos (by omega), if_pos (by omega), if_pos (by omega), if_pos (by omega), rdW l i hi, if_pos (by omega), wr_at l[i].f0 t h0 (by omega) (by omega), if_pos (by omega), hlen, if_pos (by omega),
   Int.toNat_natCast, rdN _ t hlt, putF_step d l[i].f0 l[i].f1 t hlt (by omega), wr_one t (by omega)]
  exact ih (t + 1) k (by omega) hk
theorem torn_l0 (l : List S42) (hl : l.length ≤ 1000000000) (w p : Nat) (hw : w ≤ l.length) (hp : ∀ x, l[w]? = some x → p ≤ x.f1.length) :
  ∀ (q i k : Nat) (d : List Int), i + q = w → 80 * q + 80 ≤ k → d.length ≤ 1000000 → (∀ x ∈ l, PutOk d.length x) →
  berylref20_Torn.l0 k l (w : Int) (p : Int) d (i : Int) = some (doneF (doneF d ((l.drop i).take q)) (partOf l w p), 0) := by
 intro q
 induction q with
 | zero =>
  intro i k d hi hk hd hok
  obtain ⟨k, rfl⟩ : ∃ j, k = j + 6 := ⟨k - 6, by omega⟩
  obtain rfl : i = w := by omega
  rw [List.take_zero]
  by_cases hlt : i < l.length
  ·have hx := List.getElem?_eq_getElem hlt
   have hpl := hp _ hx
   have ho := hok l[i] (List.getElem_mem hlt)
   have h64 := ho.2.2
   rw [berylref20_Torn.l0, if_pos (by omega), berylref20_Torn.j2, decide_eq_true (Int.le_refl _), if_pos rfl, if_pos (by omega), if_pos (by omega), if_pos rfl, berylref20_Torn.j3]
   obtain ⟨k, rfl⟩ : ∃ j, k = j + p := ⟨k - p, by omega⟩
   have h := torn_l1 l (by omega) (i : Int) (p : Int) d hd i hlt ho p hpl p 0 (k + 3) (by omega) (by omega)
   rw [show k + p + 3 = k + 3 + p by omega]
   rw [List.take_zero, putF_nil] at h
   refine h.trans ?_
   have hpo : partOf l i p = [⟨l[i].f0, l[i].f1.take p⟩] := by
    unfold partOf
    rw [hx]
   rw [show k + 3 - 1 = k + 1 + 1 by omega, berylref20_Torn.l0, hpo]
   by_cases h2 : i + 1 < l.length
   ·rw [if_pos (by omega), berylref20_Torn.j2, decide_eq_false (by omega), if_neg (by simp)]
    rfl
   ·rw [if_neg (by omega), berylref20_Torn.j2, if_neg (by simp)]
    rfl
  ·have hpo : partOf l i p = [] := by
    unfold partOf
    rw [List.getElem?_eq_none (by omega)]
   rw [berylref20_Torn.l0, if_neg (by omega), berylref20_Torn.j2, if_neg (by simp), hpo]
   rfl
 | succ q ih =>
  intro i k d hi hk hd hok
  obtain ⟨k, rfl⟩ : ∃ j, k = j + 6 := ⟨k - 6, by omega⟩
  have hlt : i < l.length := by omega
  have ho := hok l[i] (List.getElem_mem hlt)
  have h64 := ho.2.2
  rw [berylref20_Torn.l0, if_pos (by omega), berylref20_Torn.j2, decide_eq_true (by omega), if_pos rfl, if_pos (by omega), if_pos (by omega), if_neg (by omega), rdW l i hlt, berylref20_Torn.j3]
  obtain ⟨k, rfl⟩ : ∃ j, k = j + l[i].f1.length := ⟨k - l[i].f1.length, by omega⟩
  have h := torn_l1 l (by omega) (w : Int) (p : Int) d hd i hlt ho l[i].f1.length (Nat.le_refl _) l[i].f1.length 0 (k + 3) (by omega) (by omega)
  rw [show k + l[i].f1.length + 3 = k + 3 + l[i].f1.length by omega]
  rw [List.take_zero, putF_nil, List.take_length] at h
  refine h.trans ?_
  have hlen := putF_len ho
  rw [show (⟨l[i].f0, l[i].f1⟩ : S42) = l[i] from rfl, ih (i + 1) (k + 3 - 1) _ (by omega) (by omega) (by rw [hlen]; exact hd) (by rw [hlen]; exact hok), List.drop_eq_getElem_cons hlt]
  rfl
theorem torn_ref (xs : List Int) (hx : xs.length ≤ 9223372036854775807) (l : List S42) (hl : l.length ≤ 1000000000) (a2 a3 : Int) (k : Nat) (hk : 80 * l.length + 200 ≤ k) :
  berylref20_Torn.f k xs l a2 a3 = disk_Torn.f xs l a2 a3 := by
 obtain ⟨k, rfl⟩ : ∃ j, k = j + 2 := ⟨k - 2, by omega⟩
 unfold berylref20_Torn.f disk_Torn.f
 have hsz := (sizeB xs).resolve_right (by omega)
 rw [hsz, Option.bind_some]
 cases hs : sizeOk xs.length with
 | false =>
  have : putsF xs l = 200 := by unfold putsF; rw [hs]; rfl
  rw [this]
  rfl
 | true =>
  have hs9 := hs
  have hps := size_pos hs
  have : putsF xs l = putsR xs.length l := by unfold putsF; rw [hs]; rfl
  rw [this, if_pos rfl, if_neg (by omega)]
  have hf : berylref20_fine.f xs l = some (putsR xs.length l == 0) := by unfold berylref20_fine.f; rw [if_pos hs]
  rcases puts_vals xs.length l with hz | hz
  rotate_left
  ·rw [hz] at hf
   have hf2 : berylref20_fine.f xs l = some false := hf
   rw [hf2, hz]
   rfl
  rw [hz] at hf
  have hf2 : berylref20_fine.f xs l = some true := hf
  rw [hf2, Option.bind_some, hz, if_pos rfl, if_pos rfl]
  have hok := puts_ok hz
  have bad : berylref20_Torn.j0 (k + 2) xs l a2 a3 true = some ([], 201) := by rw [berylref20_Torn.j0, if_pos rfl]
  unfold powerOk
  by_cases c1 : a2 < 0
  ·rw [if_pos c1, bad, decide_eq_false (by omega : ¬ 0 ≤ a2)]
   rfl
  rw [if_neg c1, decide_eq_true (by omega : 0 ≤ a2)]
  by_cases c2 : a2 > (l.length : Int)
  ·rw [if_pos c2, bad, decide_eq_false (by omega : ¬ a2 ≤ (l.length : Int))]
   rfl
  rw [if_neg c2, decide_eq_true (by omega : a2 ≤ (l.length : Int))]
  by_cases c3 : a3 < 0
  ·rw [if_pos c3, bad, decide_eq_false (by omega : ¬ 0 ≤ a3)]
   rfl
  rw [if_neg c3, decide_eq_true (by omega : 0 ≤ a3)]
  obtain ⟨w, rfl⟩ := Int.eq_ofNat_of_zero_le (Int.not_lt.1 c1)
  obtain ⟨p, rfl⟩ := Int.eq_ofNat_of_zero_le (Int.not_lt.1 c3)
  simp only [Int.toNat_natCast, Bool.true_and]
  have good : (∀ x, l[w]? = some x → p ≤ x.f1.length) → berylref20_Torn.j0 (k + 2) xs l (w : Int) (p : Int) false = some (doneF (doneF xs (l.take w)) (partOf l w p), 0) := by
   intro hp
   rw [berylref20_Torn.j0, if_neg (by simp), Option.bind_some, List.nil_append, if_pos (by simp; omega)]
   exact torn_l0 l hl w p (by omega) hp w 0 (k + 1) xs (by omega) (by omega) (by omega) hok
  have zero : p = 0 → doneF (doneF xs (l.take w)) (partOf l w p) = doneF xs (l.take w) := by
   rintro rfl
   unfold partOf
   split
   ·simp [doneF, putF_nil]
   ·rfl
  by_cases c4 : (w : Int) = (l.length : Int)
  ·have hnone : l[w]? = none := List.getElem?_eq_none (by omega)
   rw [if_pos c4, hnone]
   by_cases c5 : (p : Int) > 0
   ·rw [if_pos c5, bad, decide_eq_false (by omega : ¬ (p : Int) = 0)]
    rfl
   ·rw [if_neg c5, if_neg (by omega), good (fun x hx => by rw [hnone] at hx; cases hx), zero (by omega), decide_eq_true (by omega : (p : Int) = 0), if_pos (by rfl), if_pos (by omega)]
  ·have hlt : w < l.length := by omega
   rw [if_neg c4, if_pos (by omega), if_pos (by omega), rdW l w hlt, List.getElem?_eq_getElem hlt]
   by_cases c6 : p ≤ l[w].f1.length
   ·rw [decide_eq_false (by omega), good (fun x hx => by rw [List.getElem?_eq_getElem hlt] at hx; cases hx; exact c6)]
    have : (decide ((p : Int) = 0) || decide ((p : Int) ≤ (l[w].f1.length : Int))) = true := by rw [decide_eq_true (by omega : (p : Int) ≤ (l[w].f1.length : Int)), Bool.or_true]
    rw [if_pos this]
    by_cases c7 : p = 0
    ·rw [zero c7, if_pos (by omega)]
    ·rw [if_neg (by omega)]
   ·rw [decide_eq_true (by omega), bad]
    have : (decide ((p : Int) = 0) || decide ((p : Int) ≤ (l[w].f1.length : Int))) = false := by rw [decide_eq_false (by omega : ¬ (p : Int) ≤ (l[w].f1.length : Int)), decide_eq_false (by omega : ¬ (p : Int) = 0)]; rfl
    rw [if_neg (by rw [this]; simp)]
theorem do_ref (xs : List Int) (hx : xs.length ≤ 9223372036854775807) (l : List S42) (hl : l.length ≤ 1000000000) (k : Nat) (hk : 80 * l.length + 200 ≤ k) :
  berylref20_Do.f k xs l = disk_Do.f xs l := by
 unfold berylref20_Do.f
 rw [torn_ref xs hx l hl _ _ k hk]
 unfold disk_Torn.f disk_Do.f
 have hp : powerOk l (l.length : Int) 0 = true := by
  unfold powerOk
  simp
 rw [hp, Option.bind_some, if_pos rfl, if_pos rfl, Int.toNat_natCast, List.take_length]
def PutFits (x : S42) : Prop := (Lit.int .i64 x.f0).wf = true ∧ x.f1.length ≤ 140737488351232 ∧ ∀ b ∈ x.f1, (Lit.int .u8 b).wf = true
def totW : List S42 → Nat
 | [] => 0
 | r :: l => r.f1.length + totW l
theorem totW_step (l : List S42) (i : Nat) (h : i < l.length) : totW (l.drop i) = l[i].f1.length + totW (l.drop (i + 1)) := by rw [List.drop_eq_getElem_cons h, totW]
theorem totW_le {l : List S42} {B : Nat} (h : ∀ x ∈ l, x.f1.length ≤ B) : totW l ≤ l.length * B := by
 induction l with
 | nil => simp [totW]
 | cons r l ih =>
  have h1 := h r (List.mem_cons_self ..)
  have h2 := ih (fun x hx => h x (List.mem_cons_of_mem _ hx))
  rw [totW, List.length_cons, Nat.add_mul]
  omega
theorem slight_far (l : List S42) (hl : l.length ≤ 4398046511104) (h3 : 300 < l.length) : ∀ (m i k : Nat) (acc : Int), i + m = l.length → m < k → beryllaw20_slight.l0 k l acc (i : Int) = some false := by
 intro m
 induction m with
 | zero =>
  intro i k acc hi hk
  obtain ⟨k, rfl⟩ : ∃ j, k = j + 1 := ⟨k - 1, by omega⟩
  rw [beryllaw20_slight.l0, if_neg (by omega), if_neg (by omega)]
 | succ m ih =>
  intro i k acc hi hk
  obtain ⟨k, rfl⟩ : ∃ j, k = j + 1 := ⟨k - 1, by omega⟩
  have e2 : wrap64 ((i : Int) + 1) = ((i + 1 : Nat) : Int) := by unfold wrap64; omega
  rw [beryllaw20_slight.l0, if_pos (by omega), if_pos (by omega), e2]
  exact ih (i + 1) k _ (by omega) (by omega)
theorem slight_near (l : List S42) (hl : l.length ≤ 300) : ∀ (m i k acc : Nat), i + m = l.length → m < k → acc + totW (l.drop i) ≤ 42221246505369600 →
  beryllaw20_slight.l0 k l (acc : Int) (i : Int) = some (decide (acc + totW (l.drop i) ≤ 20000)) := by
 intro m
 induction m with
 | zero =>
  intro i k acc hi hk hs
  obtain ⟨k, rfl⟩ : ∃ j, k = j + 1 := ⟨k - 1, by omega⟩
  rw [beryllaw20_slight.l0, if_neg (by omega), List.drop_of_length_le (by omega), totW, if_pos (by omega)]
  simp
  omega
 | succ m ih =>
  intro i k acc hi hk hs
  obtain ⟨k, rfl⟩ : ∃ j, k = j + 1 := ⟨k - 1, by omega⟩
  have hlt : i < l.length := by omega
  have e2 : wrap64 ((i : Int) + 1) = ((i + 1 : Nat) : Int) := by unfold wrap64; omega
  rw [totW_step l i hlt] at hs ⊢
  have e3 : wrap64 ((acc : Int) + (l[i].f1.length : Int)) = ((acc + l[i].f1.length : Nat) : Int) := by unfold wrap64; omega
  rw [beryllaw20_slight.l0, if_pos (by omega), if_pos (by omega), e2, rdW l i hlt, e3, ih (i + 1) k (acc + l[i].f1.length) (by omega) (by omega) (by omega)]
  rw [Nat.add_assoc]
theorem slight_f (l : List S42) (hl : l.length * 32 ≤ 140737488351232) (hB : ∀ x ∈ l, PutFits x) :
  ∃ b : Bool, (∀ k, l.length < k → beryllaw20_slight.f k l = some b) ∧ (b = true → l.length ≤ 300) := by
 by_cases h3 : l.length ≤ 300
 ·have ht := totW_le (fun x hx => (hB x hx).2.1)
  have ht2 : totW l ≤ 42221246505369600 := Nat.le_trans ht (by omega)
  refine ⟨decide (totW l ≤ 20000), fun k hk => ?_, fun _ => h3⟩
  have := slight_near l h3 l.length 0 k 0 (by omega) hk (by simpa using ht2)
  simpa [beryllaw20_slight.f] using this
 ·refine ⟨false, fun k hk => ?_, fun h => by cases h⟩
  exact slight_far l (by omega) (by omega) l.length 0 k 0 (by omega) hk
end Go.Proofs.YtcdpkdehogcjnaaGreat.Print
