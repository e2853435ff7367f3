/- Plain laws of valid maps; moving and making: contracts, whatever the input. -/
import Derived.Test.YtjnceoohlcchnaaRA
import Derived.Test.YtjnceoohlcchnaaRC
import Derived.Test.YtjnceoohlcchnaaRD
set_option linter.unusedVariables false
set_option linter.unusedSimpArgs false
/-! Plain laws. -/
namespace Go.Proofs.Ytjnceoohlcchnaa.Print
open Go Go.RowKit Go.Deep Go.Proofs.YtjnceoohlcchnaaW.PrintWords Go.Proofs.YtjnceoohlcchnaaW.PrintLast Go.Proofs.YtjnceoohlcchnaaW.PrintMore
def Sorted (l : List S31) : Prop := l.Pairwise fun a b => a.f0 < b.f0
theorem sorted_get {l : List S31} (hs : Sorted l) {i j : Nat} {a b : S31} (hi : l[i]? = some a) (hj : l[j]? = some b) (h : i < j) : a.f0 < b.f0 := by
  obtain ⟨h1, rfl⟩ := List.getElem?_eq_some_iff.1 hi
  obtain ⟨h2, rfl⟩ := List.getElem?_eq_some_iff.1 hj
  exact List.pairwise_iff_getElem.1 hs i j h1 h2 h
theorem sorted_le {l : List S31} (hs : Sorted l) {i j : Nat} {a b : S31} (hi : l[i]? = some a) (hj : l[j]? = some b) (h : i ≤ j) : a.f0 ≤ b.f0 := by
  rcases Nat.lt_or_eq_of_le h with h | h
  · exact Int.le_of_lt (sorted_get hs hi hj h)
  · subst h; rw [hi] at hj; cases hj; exact Int.le_refl _
theorem bs_spec {l : List S31} (hs : Sorted l) (oid : Int) : ∀ (f lo hi : Nat), lo ≤ hi → hi ≤ l.length → hi - lo ≤ f →
    (∀ (k : Nat) x, k < lo → l[k]? = some x → x.f0 < oid) → (∀ (k : Nat) x, hi ≤ k → l[k]? = some x → oid ≤ x.f0) →
    (∀ (k : Nat) x, k < bsL l oid f lo hi → l[k]? = some x → x.f0 < oid) ∧ (∀ (k : Nat) x, bsL l oid f lo hi ≤ k → l[k]? = some x → oid ≤ x.f0)
  | 0, lo, hi, h1, _, h3, h4, h5 => by
    have e : lo = hi := by omega
    subst e
    exact ⟨h4, h5⟩
  | f + 1, lo, hi, h1, h2, h3, h4, h5 => by
    unfold bsL
    by_cases hlt : lo < hi
    · rw [if_pos hlt]
      have hm : (lo + hi) / 2 < l.length := by omega
      have he : l[(lo + hi) / 2]? = some l[(lo + hi) / 2] := List.getElem?_eq_getElem hm
      have hg : l.getD ((lo + hi) / 2) ⟨0, 0, 0⟩ = l[(lo + hi) / 2] := by rw [List.getD_eq_getElem?_getD, he]; rfl
      rw [hg]
      by_cases hc : l[(lo + hi) / 2].f0 < oid
      · rw [if_pos hc]
        refine bs_spec hs oid f _ hi (by omega) h2 (by omega) (fun k x hk hx => ?_) h5
        exact Int.lt_of_le_of_lt (sorted_le hs hx he (by omega)) hc
      · rw [if_neg hc]
        refine bs_spec hs oid f lo _ (by omega) (by omega) (by omega) h4 (fun k x hk hx => ?_)
        exact Int.le_trans (by omega) (sorted_le hs he hx (by omega))
    · rw [if_neg hlt]
      have e : lo = hi := by omega
      subst e
      exact ⟨h4, h5⟩
theorem at_spec {l : List S31} (hs : Sorted l) (oid : Int) : (∀ (k : Nat) x, k < atI l oid → l[k]? = some x → x.f0 < oid) ∧ (∀ (k : Nat) x, atI l oid ≤ k → l[k]? = some x → oid ≤ x.f0) :=
  bs_spec hs oid l.length 0 l.length (Nat.zero_le _) (Nat.le_refl _) (by omega) (fun k x hk => by omega) (fun k x hk hx => by
    have := (List.getElem?_eq_some_iff.1 hx).1; omega)
theorem at_found {l : List S31} {oid : Int} (h : atB l oid = true) : lookL l oid ∈ l ∧ (lookL l oid).f0 = oid := by
  have h0 := h
  unfold atB at h
  rw [Bool.and_eq_true, decide_eq_true_iff, beq_iff_eq] at h
  unfold lookL
  rw [if_pos h0, List.getD_eq_getElem?_getD, List.getElem?_eq_getElem h.1]
  refine ⟨List.getElem_mem h.1, ?_⟩
  have h2 := h.2
  rw [List.getD_eq_getElem?_getD, List.getElem?_eq_getElem h.1] at h2
  exact h2
theorem sorted_eq {l : List S31} (hs : Sorted l) {a b : S31} (ha : a ∈ l) (hb : b ∈ l) (h : a.f0 = b.f0) : a = b := by
  obtain ⟨i, hi⟩ := List.mem_iff_getElem?.1 ha
  obtain ⟨j, hj⟩ := List.mem_iff_getElem?.1 hb
  rcases Nat.lt_trichotomy i j with hij | hij | hij
  · have := sorted_get hs hi hj hij; omega
  · subst hij; rw [hi] at hj; exact Option.some.inj hj
  · have := sorted_get hs hj hi hij; omega
theorem at_of_mem {l : List S31} (hs : Sorted l) {x : S31} (hx : x ∈ l) : atB l x.f0 = true := by
  obtain ⟨i, hi⟩ := List.mem_iff_getElem?.1 hx
  obtain ⟨s1, s2⟩ := at_spec hs x.f0
  have hil := (List.getElem?_eq_some_iff.1 hi).1
  have hle : atI l x.f0 ≤ i := Nat.le_of_not_lt fun h => by have := s1 i x h hi; omega
  have hlt : atI l x.f0 < l.length := by omega
  have he : l[atI l x.f0]? = some l[atI l x.f0] := List.getElem?_eq_getElem hlt
  have h1 := s2 _ _ (Nat.le_refl _) he
  have h2 := sorted_le hs he hi hle
  unfold atB
  rw [Bool.and_eq_true, decide_eq_true_iff, beq_iff_eq, List.getD_eq_getElem?_getD, he]
  exact ⟨hlt, Int.le_antisymm h2 h1⟩
theorem look_of_mem {l : List S31} (hs : Sorted l) {x : S31} (hx : x ∈ l) : atB l x.f0 = true ∧ lookL l x.f0 = x := by
  have h := at_of_mem hs hx
  obtain ⟨h1, h2⟩ := at_found h
  exact ⟨h, sorted_eq hs h1 hx h2⟩
theorem at_iff {l : List S31} (hs : Sorted l) (oid : Int) : atB l oid = true ↔ ∃ x ∈ l, x.f0 = oid :=
  ⟨fun h => ⟨_, at_found h⟩, fun ⟨x, hx, e⟩ => e ▸ at_of_mem hs hx⟩
theorem at_none {l : List S31} (hs : Sorted l) {oid : Int} (h : ∀ x ∈ l, x.f0 ≠ oid) : atB l oid = false ∧ lookL l oid = ⟨0, 0, 0⟩ := by
  have hb : ¬ atB l oid = true := fun hb => by obtain ⟨x, hx, e⟩ := (at_iff hs oid).1 hb; exact h x hx e
  refine ⟨by simpa using hb, ?_⟩
  unfold lookL
  rw [if_neg hb]
theorem without_mem {l : List S31} {oid : Int} {x : S31} : x ∈ withoutL l oid ↔ x ∈ l ∧ x.f0 ≠ oid := by
  unfold withoutL
  rw [List.mem_filter]
  simp
theorem without_sorted {l : List S31} (hs : Sorted l) (oid : Int) : Sorted (withoutL l oid) := List.Pairwise.filter _ hs
theorem put_mem {l : List S31} {x y : S31} : y ∈ putL l x ↔ y = x ∨ (y ∈ l ∧ y.f0 ≠ x.f0) := by
  unfold putL insL
  rw [List.mem_append, List.mem_cons, ← without_mem (oid := x.f0)]
  have h : y ∈ withoutL l x.f0 ↔ y ∈ (withoutL l x.f0).take (atI (withoutL l x.f0) x.f0) ∨ y ∈ (withoutL l x.f0).drop (atI (withoutL l x.f0) x.f0) := by
    rw [← List.mem_append, List.take_append_drop]
  rw [h]
  exact or_left_comm
theorem put_sorted {l : List S31} (hs : Sorted l) (x : S31) : Sorted (putL l x) := by
  have hw := without_sorted hs x.f0
  have hne : ∀ y ∈ withoutL l x.f0, y.f0 ≠ x.f0 := fun y hy => (without_mem.1 hy).2
  obtain ⟨W, hW⟩ : ∃ W, W = withoutL l x.f0 := ⟨_, rfl⟩
  unfold putL insL
  rw [← hW] at hw hne ⊢
  obtain ⟨s1, s2⟩ := at_spec hw x.f0
  have ht : ∀ y ∈ W.take (atI W x.f0), y.f0 < x.f0 := fun y hy => by
    obtain ⟨k, hk⟩ := List.mem_iff_getElem?.1 hy
    rw [List.getElem?_take] at hk
    split at hk
    · rename_i h; exact s1 k y h hk
    · cases hk
  have hd : ∀ y ∈ W.drop (atI W x.f0), x.f0 < y.f0 := fun y hy => by
    obtain ⟨k, hk⟩ := List.mem_iff_getElem?.1 hy
    rw [List.getElem?_drop] at hk
    have h1 := s2 _ y (Nat.le_add_right _ k) hk
    have h2 := hne y (List.mem_of_getElem? hk)
    omega
  unfold Sorted
  rw [List.pairwise_append]
  refine ⟨List.Pairwise.sublist (List.take_sublist _ _) hw, List.pairwise_cons.2 ⟨hd, List.Pairwise.sublist (List.drop_sublist _ _) hw⟩, fun a ha b hb => ?_⟩
  rcases List.mem_cons.1 hb with rfl | hb
  · exact ht a ha
  · exact Int.lt_trans (ht a ha) (hd b hb)
theorem without_same {l : List S31} (hs : Sorted l) {oid : Int} (h : atB l oid = false) : withoutL l oid = l := by
  unfold withoutL
  rw [List.filter_eq_self]
  intro a ha
  have : a.f0 ≠ oid := fun e => by rw [← e, at_of_mem hs ha] at h; cases h
  simpa using this
theorem without_length : ∀ {l : List S31}, Sorted l → ∀ {x : S31}, x ∈ l → (withoutL l x.f0).length + 1 = l.length
  | [], _, x, h => by cases h
  | y :: l, hs, x, h => by
    obtain ⟨h1, h2⟩ := List.pairwise_cons.1 hs
    unfold withoutL
    rw [List.filter_cons]
    by_cases e : y.f0 = x.f0
    · rw [if_neg (by simp [e]), List.filter_eq_self.2 (fun a ha => by have := h1 a ha; simp; omega)]
      rfl
    · rw [if_pos (by simp [e])]
      rcases List.mem_cons.1 h with rfl | h
      · exact absurd rfl e
      · have := without_length h2 h
        unfold withoutL at this
        rw [List.length_cons, List.length_cons, this]
theorem put_length {l : List S31} (hs : Sorted l) (x : S31) : (putL l x).length = if atB l x.f0 = true then l.length else l.length + 1 := by
  unfold putL
  rw [ins_len _ _ _ (atI_le _ _)]
  by_cases h : atB l x.f0 = true
  · rw [if_pos h]
    obtain ⟨h1, h2⟩ := at_found h
    have := without_length hs h1
    rw [h2] at this
    exact this
  · rw [if_neg h, without_same hs (by simpa using h)]
/-- what is known of others is as it was -/
theorem look_ext {a b : List S31} (ha : Sorted a) (hb : Sorted b) (oid : Int) (h : ∀ x : S31, x.f0 = oid → (x ∈ a ↔ x ∈ b)) : atB a oid = atB b oid ∧ lookL a oid = lookL b oid := by
  by_cases hx : atB a oid = true
  · obtain ⟨h1, h2⟩ := at_found hx
    have hm := (h _ h2).1 h1
    obtain ⟨h3, h4⟩ := look_of_mem hb hm
    rw [h2] at h3 h4
    exact ⟨by rw [hx, h3], h4.symm⟩
  · have hn : ∀ x ∈ a, x.f0 ≠ oid := fun x hm e => hx (e ▸ at_of_mem ha hm)
    obtain ⟨h1, h2⟩ := at_none ha hn
    obtain ⟨h3, h4⟩ := at_none hb (oid := oid) (fun x hm e => hn x ((h x e).2 hm) e)
    exact ⟨by rw [h1, h3], by rw [h2, h4]⟩
theorem sorted_ext : ∀ {a b : List S31}, Sorted a → Sorted b → (∀ x : S31, x ∈ a ↔ x ∈ b) → a = b
  | [], [], _, _, _ => rfl
  | [], y :: b, _, _, h => by have := (h y).2 (List.mem_cons_self ..); cases this
  | x :: a, [], _, _, h => by have := (h x).1 (List.mem_cons_self ..); cases this
  | x :: a, y :: b, ha, hb, h => by
    obtain ⟨a1, a2⟩ := List.pairwise_cons.1 ha
    obtain ⟨b1, b2⟩ := List.pairwise_cons.1 hb
    have hxy : x = y := by
      rcases List.mem_cons.1 ((h x).1 (List.mem_cons_self ..)) with e | e
      · exact e
      rcases List.mem_cons.1 ((h y).2 (List.mem_cons_self ..)) with e2 | e2
      · exact e2.symm
      have := b1 x e
      have := a1 y e2
      omega
    subst hxy
    rw [sorted_ext a2 b2 (fun z => ⟨fun hz => by
      rcases List.mem_cons.1 ((h z).1 (List.mem_cons_of_mem _ hz)) with e | e
      · subst e; have := a1 _ hz; omega
      · exact e, fun hz => by
      rcases List.mem_cons.1 ((h z).2 (List.mem_cons_of_mem _ hz)) with e | e
      · subst e; have := b1 _ hz; omega
      · exact e⟩)]
end Go.Proofs.Ytjnceoohlcchnaa.Print

/-! which maps are valid: as a law of lists -/
namespace Go.Proofs.Ytjnceoohlcchnaa.Print
open Go Go.RowKit Go.Deep Go.Proofs.YtjnceoohlcchnaaW.PrintWords Go.Proofs.YtjnceoohlcchnaaW.PrintLast Go.Proofs.YtjnceoohlcchnaaW.PrintMore
def GoodM (m : List (Int × S31)) : Prop := ∀ k x, mget m k = some x → x.f0 = k
theorem good_nil : GoodM [] := fun k x h => by rw [mget_nil] at h; cases h
theorem good_put {m : List (Int × S31)} (h : GoodM m) (x : S31) : GoodM (mput m x.f0 x) := fun k y hy => by
  rw [mget_put] at hy
  split at hy
  · rename_i e; cases hy; exact e.symm
  · exact h k y hy
theorem hasL_some {i : Int} {hints : List S31} : ∀ {l : List S31} {m m' : List (Int × S31)}, hasL i hints l m = some m' → GoodM m →
    GoodM m' ∧ (∀ x : S31, mget m' x.f0 = some x ↔ x ∈ l ∨ mget m x.f0 = some x) ∧ (∀ h ∈ l, h.f1 = i ∧ atB hints h.f0 = false ∧ mget m h.f0 = none)
  | [], m, m', e, hg => by
    cases e
    exact ⟨hg, fun x => ⟨.inr, fun h => h.resolve_left (fun h => by cases h)⟩, fun h hh => by cases hh⟩
  | h :: l, m, m', e, hg => by
    unfold hasL at e
    split at e
    · cases e
    rename_i h1
    split at e
    · cases e
    rename_i h2
    have a1 : mget m h.f0 = none := by
      cases hq : mget m h.f0 with
      | none => rfl
      | some v => exact absurd (.inl (by rw [hq]; rfl)) h1
    have a2 : h.f1 = i := Decidable.byContradiction fun hn => h1 (.inr hn)
    obtain ⟨g1, g2, g3⟩ := hasL_some e (good_put hg h)
    refine ⟨g1, fun x => ?_, fun y hy => ?_⟩
    · rw [g2 x, mget_put, List.mem_cons]
      constructor
      · rintro (hx | hx)
        · exact .inl (.inr hx)
        · split at hx
          · cases hx; exact .inl (.inl rfl)
          · exact .inr hx
      · rintro ((rfl | hx) | hx)
        · right; rw [if_pos rfl]
        · exact .inl hx
        · right
          split
          · rename_i e; rw [e, a1] at hx; cases hx
          · exact hx
    · rcases List.mem_cons.1 hy with rfl | hy
      · exact ⟨a2, by simpa using h2, a1⟩
      · obtain ⟨b1, b2, b3⟩ := g3 y hy
        refine ⟨b1, b2, ?_⟩
        rw [mget_put] at b3
        split at b3
        · cases b3
        · exact b3
theorem hasL_is {i : Int} {hints : List S31} : ∀ {l : List S31} {m : List (Int × S31)}, Sorted l → (∀ h ∈ l, h.f1 = i ∧ atB hints h.f0 = false ∧ mget m h.f0 = none) → ∃ m', hasL i hints l m = some m'
  | [], m, _, _ => ⟨m, rfl⟩
  | h :: l, m, hs, hh => by
    obtain ⟨s1, s2⟩ := List.pairwise_cons.1 hs
    obtain ⟨a1, a2, a3⟩ := hh h (List.mem_cons_self ..)
    unfold hasL
    rw [if_neg (by rw [a3]; simp [a1]), if_neg (by rw [a2]; simp)]
    refine hasL_is s2 fun y hy => ?_
    obtain ⟨b1, b2, b3⟩ := hh y (List.mem_cons_of_mem _ hy)
    have := s1 y hy
    exact ⟨b1, b2, by rw [mget_put, if_neg (by omega)]; exact b3⟩
theorem listR_spec (n : Int) : ∀ (l : List S31) (o : Option Int), listR n o l = true ↔ (∀ q, o = some q → ∀ h ∈ l, q < h.f0) ∧ Sorted l ∧ (∀ h ∈ l, 1 ≤ h.f0 ∧ 0 ≤ h.f2 ∧ h.f2 ≤ 1099511627776 ∧ 0 ≤ h.f1 ∧ h.f1 < n)
  | [], o => by
    have : listR n o [] = true := by cases o <;> rfl
    rw [this]
    exact ⟨fun _ => ⟨fun _ _ h hh => (by cases hh), List.Pairwise.nil, fun h hh => (by cases hh)⟩, fun _ => rfl⟩
  | h :: l, o => by
    rw [listR_cons, Bool.and_eq_true, Bool.and_eq_true, Bool.and_eq_true, Bool.and_eq_true, decide_eq_true_iff, decide_eq_true_iff, decide_eq_true_iff, listR_spec n l (some h.f0)]
    constructor
    · rintro ⟨⟨⟨⟨a1, a2⟩, a3⟩, a4⟩, b1, b2, b3⟩
      refine ⟨fun q hq y hy => ?_, List.pairwise_cons.2 ⟨fun y hy => b1 _ rfl y hy, b2⟩, fun y hy => ?_⟩
      · subst hq
        have a2' : q < h.f0 := by simpa using a2
        rcases List.mem_cons.1 hy with rfl | hy
        · exact a2'
        · have := b1 _ rfl y hy; omega
      · rcases List.mem_cons.1 hy with rfl | hy
        · exact ⟨a1, a3.1, a3.2, a4.1, a4.2⟩
        · exact b3 y hy
    · rintro ⟨b1, b2, b3⟩
      obtain ⟨s1, s2⟩ := List.pairwise_cons.1 b2
      obtain ⟨c1, c2, c3, c4, c5⟩ := b3 h (List.mem_cons_self ..)
      refine ⟨⟨⟨⟨c1, ?_⟩, c2, c3⟩, c4, c5⟩, fun q hq y hy => by cases hq; exact s1 y hy, s2, fun y hy => b3 y (List.mem_cons_of_mem _ hy)⟩
      cases o with
      | none => rfl
      | some q => have := b1 q rfl h (List.mem_cons_self ..); simpa using this
structure Listed (l : List S31) (n : Int) : Prop where
  len : l.length ≤ 4000
  sorted : Sorted l
  all : ∀ h ∈ l, 1 ≤ h.f0 ∧ 0 ≤ h.f2 ∧ h.f2 ≤ 1099511627776 ∧ 0 ≤ h.f1 ∧ h.f1 < n
theorem listF_iff (l : List S31) (n : Int) : listF l n = true ↔ Listed l n := by
  unfold listF
  rw [Bool.and_eq_true, decide_eq_true_iff, listR_spec]
  exact ⟨fun ⟨a, _, b, c⟩ => ⟨a, b, c⟩, fun h => ⟨h.len, fun q hq => (by cases hq), h.sorted, h.all⟩⟩
structure PostV (n : Int) (x : S36) : Prop where
  has : Listed x.f1 n
  hints : Listed x.f2 n
  down : x.f0 = false → x.f1 = [] ∧ x.f2 = []
theorem postOk_iff (n : Int) (x : S36) : postOk n x = true ↔ PostV n x := by
  unfold postOk
  rw [Bool.and_eq_true, Bool.and_eq_true, listF_iff, listF_iff]
  constructor
  · rintro ⟨⟨a, b⟩, c⟩
    refine ⟨a, b, fun h => ?_⟩
    rw [h, Bool.false_or, decide_eq_true_iff] at c
    exact ⟨List.eq_nil_of_length_eq_zero (by omega), List.eq_nil_of_length_eq_zero (by omega)⟩
  · rintro ⟨a, b, c⟩
    refine ⟨⟨a, b⟩, ?_⟩
    cases h : x.f0 with
    | true => rfl
    | false =>
      obtain ⟨c1, c2⟩ := c h
      rw [c1, c2]
      rfl
theorem hasA_some {n : Int} : ∀ {l : List S36} {i : Int} {m m' : List (Int × S31)}, hasA n i l m = some m' → GoodM m →
    GoodM m' ∧ (∀ x : S31, mget m' x.f0 = some x ↔ (∃ p ∈ l, x ∈ p.f1) ∨ mget m x.f0 = some x) ∧ (∀ p ∈ l, PostV n p) ∧
    (∀ (j : Nat) p h, l[j]? = some p → h ∈ p.f1 → h.f1 = i + j) ∧ (∀ p ∈ l, ∀ g ∈ p.f1, ∀ h ∈ p.f2, g.f0 ≠ h.f0)
  | [], i, m, m', e, hg => by
    cases e
    exact ⟨hg, fun x => ⟨.inr, fun h => h.resolve_left (fun ⟨p, h, _⟩ => by cases h)⟩, fun p hp => (by cases hp), fun j p h hj => (by simp at hj), fun p hp => (by cases hp)⟩
  | x :: l, i, m, m', e, hg => by
    unfold hasA at e
    split at e
    · rename_i hok
      cases hq : hasL i x.f2 x.f1 m with
      | none => rw [hq] at e; cases e
      | some m1 =>
        rw [hq] at e
        obtain ⟨a1, a2, a3⟩ := hasL_some hq hg
        obtain ⟨b1, b2, b3, b4, b5⟩ := hasA_some (show hasA n (i + 1) l m1 = some m' from e) a1
        have hv := (postOk_iff n x).1 hok
        refine ⟨b1, fun y => ?_, fun p hp => ?_, fun j p h hj hh => ?_, fun p hp g hg h hh => ?_⟩
        · rw [b2 y, a2 y]
          constructor
          · rintro (⟨p, hp, hy⟩ | hy | hy)
            · exact .inl ⟨p, List.mem_cons_of_mem _ hp, hy⟩
            · exact .inl ⟨x, List.mem_cons_self .., hy⟩
            · exact .inr hy
          · rintro (⟨p, hp, hy⟩ | hy)
            · rcases List.mem_cons.1 hp with rfl | hp
              · exact .inr (.inl hy)
              · exact .inl ⟨p, hp, hy⟩
            · exact .inr (.inr hy)
        · rcases List.mem_cons.1 hp with rfl | hp
          · exact hv
          · exact b3 p hp
        · cases j with
          | zero => cases hj; rw [(a3 h hh).1]; omega
          | succ j => rw [b4 j p h (by simpa using hj) hh]; omega
        · rcases List.mem_cons.1 hp with rfl | hp
          · intro e
            have := (a3 g hg).2.1
            rw [e, at_of_mem hv.hints.sorted hh] at this
            cases this
          · exact b5 p hp g hg h hh
    · cases e
theorem hasA_is {n : Int} : ∀ {l : List S36} {i : Int} {m : List (Int × S31)}, GoodM m → (∀ p ∈ l, PostV n p) → (∀ (j : Nat) p h, l[j]? = some p → h ∈ p.f1 → h.f1 = i + j ∧ mget m h.f0 = none) → (∀ p ∈ l, ∀ g ∈ p.f1, ∀ h ∈ p.f2, g.f0 ≠ h.f0) →
    (∀ p ∈ l, ∀ q ∈ l, ∀ g ∈ p.f1, ∀ h ∈ q.f1, g.f0 = h.f0 → g = h) → ∃ m', hasA n i l m = some m'
  | [], i, m, _, _, _, _, _ => ⟨m, rfl⟩
  | x :: l, i, m, hg, h1, h2, h3, h4 => by
    have hv := h1 x (List.mem_cons_self ..)
    obtain ⟨m1, e1⟩ := hasL_is (i := i) (hints := x.f2) (m := m) hv.has.sorted (fun h hh => by
      obtain ⟨b1, b2⟩ := h2 0 x h rfl hh
      refine ⟨by omega, ?_, b2⟩
      exact (at_none hv.hints.sorted (fun y hy e => h3 x (List.mem_cons_self ..) h hh y hy e.symm)).1)
    obtain ⟨a1, a2, a3⟩ := hasL_some e1 hg
    obtain ⟨m2, e2⟩ := hasA_is (n := n) (l := l) (i := i + 1) a1 (fun p hp => h1 p (List.mem_cons_of_mem _ hp)) (fun j p h hj hh => by
      obtain ⟨b1, b2⟩ := h2 (j + 1) p h (by simpa using hj) hh
      refine ⟨by omega, ?_⟩
      cases hq : mget m1 h.f0 with
      | none => rfl
      | some y =>
        have hy := a1 _ _ hq
        rw [← hy] at hq
        rcases (a2 y).1 hq with hm | hm
        · have := h4 x (List.mem_cons_self ..) p (List.mem_cons_of_mem _ (List.mem_of_getElem? hj)) y hm h hh hy
          subst this
          have := (a3 y hm).1
          omega
        · rw [hy, b2] at hm; cases hm) (fun p hp => h3 p (List.mem_cons_of_mem _ hp)) (fun p hp q hq => h4 p (List.mem_cons_of_mem _ hp) q (List.mem_cons_of_mem _ hq))
    refine ⟨m2, ?_⟩
    unfold hasA
    rw [if_pos ((postOk_iff n x).2 hv), e1]
    exact e2
theorem clash_iff {hm : List (Int × S31)} (hg : GoodM hm) (h : S31) : clash hm h = false ↔ ∀ x : S31, x.f0 = h.f0 → mget hm x.f0 = some x → h.f2 < x.f2 ∨ h.f2 = x.f2 ∧ h.f1 = x.f1 := by
  unfold clash
  cases hq : mget hm h.f0 with
  | none => exact ⟨fun _ x e hx => (by rw [e, hq] at hx; cases hx), fun _ => rfl⟩
  | some y =>
    have hy := hg _ _ hq
    simp only
    rw [Bool.or_eq_false_iff, Bool.and_eq_false_iff, decide_eq_false_iff_not, decide_eq_false_iff_not, Bool.not_eq_false', Bool.and_eq_true, decide_eq_true_iff, decide_eq_true_iff]
    constructor
    · rintro ⟨a, b⟩ x e hx
      rw [e, hq] at hx
      cases hx
      rcases b with b | b
      · left; omega
      · by_cases h2 : y.f2 = h.f2
        · exact .inr ⟨h2.symm, b.2.symm⟩
        · left; omega
    · intro hx
      rcases hx y hy (by rw [hy]; exact hq) with c | c
      · exact ⟨by omega, .inl (by omega)⟩
      · exact ⟨by omega, .inr ⟨hy, c.2.symm⟩⟩
def saidB (s : List ((Int × Int) × Int)) (h : S31) : Bool := match mget s (h.f0, h.f2) with | some q => decide (q ≠ h.f1) | none => false
theorem saidL_cons (hm : List (Int × S31)) (h : S31) (l : List S31) (s : List ((Int × Int) × Int)) : saidL hm (h :: l) s = if saidB s h = true then none else if clash hm h = true then none else saidL hm l (mput s (h.f0, h.f2) h.f1) := rfl
theorem saidB_iff (s : List ((Int × Int) × Int)) (h : S31) : saidB s h = true ↔ ¬ ∀ q, mget s (h.f0, h.f2) = some q → q = h.f1 := by
  unfold saidB
  cases hq : mget s (h.f0, h.f2) with
  | none => simp
  | some q => simp
theorem saidL_some {hm : List (Int × S31)} : ∀ {l : List S31} {s s' : List ((Int × Int) × Int)}, saidL hm l s = some s' →
    (∀ o t q, mget s' (o, t) = some q ↔ mget s (o, t) = some q ∨ ∃ h ∈ l, h.f0 = o ∧ h.f2 = t ∧ h.f1 = q) ∧ (∀ h ∈ l, clash hm h = false)
  | [], s, s', e => by
    cases e
    exact ⟨fun o t q => ⟨.inl, fun h => h.resolve_right (fun ⟨h, hh, _⟩ => (by cases hh))⟩, fun h hh => (by cases hh)⟩
  | h :: l, s, s', e => by
    rw [saidL_cons] at e
    by_cases h1 : saidB s h = true
    · rw [if_pos h1] at e; cases e
    rw [if_neg h1] at e
    by_cases h2 : clash hm h = true
    · rw [if_pos h2] at e; cases e
    rw [if_neg h2] at e
    obtain ⟨a1, a2⟩ := saidL_some e
    have hq : ∀ q, mget s (h.f0, h.f2) = some q → q = h.f1 := Decidable.byContradiction fun hn => h1 ((saidB_iff s h).2 hn)
    refine ⟨fun o t q => ?_, fun y hy => ?_⟩
    · rw [a1 o t q, mget_put]
      constructor
      · rintro (hx | ⟨y, hy, hh⟩)
        · split at hx
          · rename_i e
            simp only [Prod.mk.injEq] at e
            cases hx
            exact .inr ⟨h, List.mem_cons_self .., e.1.symm, e.2.symm, rfl⟩
          · exact .inl hx
        · exact .inr ⟨y, List.mem_cons_of_mem _ hy, hh⟩
      · rintro (hx | ⟨y, hy, rfl, rfl, rfl⟩)
        · left
          split
          · rename_i e; rw [e] at hx; rw [hq q hx]
          · exact hx
        · rcases List.mem_cons.1 hy with rfl | hy
          · left; rw [if_pos rfl]
          · exact .inr ⟨y, hy, rfl, rfl, rfl⟩
    · rcases List.mem_cons.1 hy with rfl | hy
      · simpa using h2
      · exact a2 y hy
theorem saidL_is {hm : List (Int × S31)} : ∀ {l : List S31} {s : List ((Int × Int) × Int)}, (∀ h ∈ l, clash hm h = false) → (∀ h ∈ l, ∀ q, mget s (h.f0, h.f2) = some q → q = h.f1) →
    (∀ g ∈ l, ∀ h ∈ l, g.f0 = h.f0 → g.f2 = h.f2 → g.f1 = h.f1) → ∃ s', saidL hm l s = some s'
  | [], s, _, _, _ => ⟨s, rfl⟩
  | h :: l, s, h1, h2, h3 => by
    rw [saidL_cons, if_neg (fun hb => (saidB_iff s h).1 hb (h2 h (List.mem_cons_self ..))), if_neg (by rw [h1 h (List.mem_cons_self ..)]; simp)]
    · refine saidL_is (fun y hy => h1 y (List.mem_cons_of_mem _ hy)) (fun y hy q hq => ?_) (fun g hg y hy => h3 g (List.mem_cons_of_mem _ hg) y (List.mem_cons_of_mem _ hy))
      rw [mget_put] at hq
      split at hq
      · rename_i e
        cases hq
        simp only [Prod.mk.injEq] at e
        exact h3 h (List.mem_cons_self ..) _ (List.mem_cons_of_mem _ hy) e.1.symm e.2.symm
      · exact h2 y (List.mem_cons_of_mem _ hy) q hq
theorem saidA_some {hm : List (Int × S31)} : ∀ {l : List S36} {s s' : List ((Int × Int) × Int)}, saidA hm l s = some s' →
    (∀ o t q, mget s' (o, t) = some q ↔ mget s (o, t) = some q ∨ ∃ p ∈ l, ∃ h ∈ p.f2, h.f0 = o ∧ h.f2 = t ∧ h.f1 = q) ∧ (∀ p ∈ l, ∀ h ∈ p.f2, clash hm h = false)
  | [], s, s', e => by
    cases e
    exact ⟨fun o t q => ⟨.inl, fun h => h.resolve_right (fun ⟨h, hh, _⟩ => (by cases hh))⟩, fun h hh => (by cases hh)⟩
  | x :: l, s, s', e => by
    unfold saidA at e
    cases hq : saidL hm x.f2 s with
    | none => rw [hq] at e; cases e
    | some s1 =>
      rw [hq] at e
      obtain ⟨a1, a2⟩ := saidL_some hq
      obtain ⟨b1, b2⟩ := saidA_some (show saidA hm l s1 = some s' from e)
      refine ⟨fun o t q => ?_, fun p hp => ?_⟩
      · rw [b1 o t q, a1 o t q]
        constructor
        · rintro ((hx | hx) | ⟨p, hp, hx⟩)
          · exact .inl hx
          · exact .inr ⟨x, List.mem_cons_self .., hx⟩
          · exact .inr ⟨p, List.mem_cons_of_mem _ hp, hx⟩
        · rintro (hx | ⟨p, hp, hx⟩)
          · exact .inl (.inl hx)
          · rcases List.mem_cons.1 hp with rfl | hp
            · exact .inl (.inr hx)
            · exact .inr ⟨p, hp, hx⟩
      · rcases List.mem_cons.1 hp with rfl | hp
        · exact a2
        · exact b2 p hp
theorem saidA_is {hm : List (Int × S31)} : ∀ {l : List S36} {s : List ((Int × Int) × Int)}, (∀ p ∈ l, ∀ h ∈ p.f2, clash hm h = false) → (∀ p ∈ l, ∀ h ∈ p.f2, ∀ q, mget s (h.f0, h.f2) = some q → q = h.f1) →
    (∀ p ∈ l, ∀ p' ∈ l, ∀ g ∈ p.f2, ∀ h ∈ p'.f2, g.f0 = h.f0 → g.f2 = h.f2 → g.f1 = h.f1) → ∃ s', saidA hm l s = some s'
  | [], s, _, _, _ => ⟨s, rfl⟩
  | x :: l, s, h1, h2, h3 => by
    obtain ⟨s1, e1⟩ := saidL_is (hm := hm) (s := s) (h1 x (List.mem_cons_self ..)) (h2 x (List.mem_cons_self ..)) (h3 x (List.mem_cons_self ..) x (List.mem_cons_self ..))
    obtain ⟨a1, a2⟩ := saidL_some e1
    obtain ⟨s2, e2⟩ := saidA_is (hm := hm) (l := l) (s := s1) (fun p hp => h1 p (List.mem_cons_of_mem _ hp)) (fun p hp h hh q hq => by
      rcases (a1 _ _ _).1 hq with hx | ⟨y, hy, e1, e2, e3⟩
      · exact h2 p (List.mem_cons_of_mem _ hp) h hh q hx
      · rw [← e3]
        exact h3 x (List.mem_cons_self ..) p (List.mem_cons_of_mem _ hp) y hy h hh e1 e2) (fun p hp p' hp' => h3 p (List.mem_cons_of_mem _ hp) p' (List.mem_cons_of_mem _ hp'))
    refine ⟨s2, ?_⟩
    unfold saidA
    rw [e1]
    exact e2
structure Val (l : List S36) (n : Int) : Prop where
  ok : ∀ p ∈ l, PostV n p
  here : ∀ (j : Nat) p h, l[j]? = some p → h ∈ p.f1 → h.f1 = j
  apart : ∀ p ∈ l, ∀ g ∈ p.f1, ∀ h ∈ p.f2, g.f0 ≠ h.f0
  once : ∀ p ∈ l, ∀ q ∈ l, ∀ g ∈ p.f1, ∀ h ∈ q.f1, g.f0 = h.f0 → g = h
  same : ∀ p ∈ l, ∀ q ∈ l, ∀ g ∈ p.f2, ∀ h ∈ q.f2, g.f0 = h.f0 → g.f2 = h.f2 → g.f1 = h.f1
  older : ∀ p ∈ l, ∀ q ∈ l, ∀ g ∈ p.f1, ∀ h ∈ q.f2, g.f0 = h.f0 → h.f2 < g.f2 ∨ h.f2 = g.f2 ∧ h.f1 = g.f1
theorem valid_iff (l : List S36) (n : Int) : validF l n = true ↔ Val l n := by
  unfold validF
  constructor
  · intro h
    split at h
    · cases h
    rename_i hm hq
    obtain ⟨a1, a2, a3, a4, a5⟩ := hasA_some hq good_nil
    have a2' : ∀ x : S31, mget hm x.f0 = some x ↔ ∃ p ∈ l, x ∈ p.f1 := fun x => by
      rw [a2 x, mget_nil]
      exact ⟨fun h => h.resolve_right (fun h => by cases h), .inl⟩
    obtain ⟨s, hs⟩ := Option.isSome_iff_exists.1 h
    obtain ⟨b1, b2⟩ := saidA_some hs
    refine ⟨a3, fun j p h hj hh => by have := a4 j p h hj hh; omega, a5, fun p hp q hq g hg h hh e => ?_, fun p hp q hq g hg h hh e1 e2 => ?_, fun p hp q hq g hg h hh e => ?_⟩
    · have c1 := (a2' g).2 ⟨p, hp, hg⟩
      have c2 := (a2' h).2 ⟨q, hq, hh⟩
      rw [e, c2] at c1
      exact (Option.some.inj c1).symm
    · have c1 := (b1 _ _ _).2 (.inr ⟨p, hp, g, hg, rfl, rfl, rfl⟩)
      have c2 := (b1 _ _ _).2 (.inr ⟨q, hq, h, hh, rfl, rfl, rfl⟩)
      rw [e1, e2, c2] at c1
      exact (Option.some.inj c1).symm
    · exact (clash_iff a1 h).1 (b2 q hq h hh) g e ((a2' g).2 ⟨p, hp, hg⟩)
  · intro hv
    obtain ⟨hm, hq⟩ := hasA_is (n := n) (l := l) (i := 0) good_nil hv.ok (fun j p h hj hh => ⟨by rw [hv.here j p h hj hh]; omega, mget_nil _⟩) hv.apart hv.once
    obtain ⟨a1, a2, a3, a4, a5⟩ := hasA_some hq good_nil
    obtain ⟨s, hs⟩ := saidA_is (hm := hm) (l := l) (s := []) (fun p hp h hh => (clash_iff a1 h).2 fun x e hx => by
      rcases (a2 x).1 hx with ⟨q, hq, hm⟩ | hx
      · exact hv.older q hq p hp x hm h hh e
      · rw [mget_nil] at hx; cases hx) (fun p hp h hh q hq => by rw [mget_nil] at hq; cases hq) hv.same
    rw [hq]
    simp only
    rw [hs]
    rfl
structure Map (l : List S36) : Prop where
  one : 1 ≤ l.length
  most : l.length ≤ 16
  val : Val l l.length
theorem check_iff (l : List S36) : checkF l = true ↔ Map l := by
  unfold checkF
  rw [Bool.and_eq_true, Bool.and_eq_true, decide_eq_true_iff, decide_eq_true_iff, valid_iff]
  exact ⟨fun ⟨⟨a, b⟩, c⟩ => ⟨a, b, c⟩, fun h => ⟨⟨h.one, h.most⟩, h.val⟩⟩
end Go.Proofs.Ytjnceoohlcchnaa.Print

/-! what stands where, and what changes do -/
namespace Go.Proofs.Ytjnceoohlcchnaa.Print
open Go Go.RowKit Go.Deep Go.Proofs.YtjnceoohlcchnaaW.PrintWords Go.Proofs.YtjnceoohlcchnaaW.PrintLast Go.Proofs.YtjnceoohlcchnaaW.PrintMore
def HasAt (l : List S36) (i : Nat) (h : S31) : Prop := ∃ p, l[i]? = some p ∧ h ∈ p.f1
def HintAt (l : List S36) (i : Nat) (h : S31) : Prop := ∃ p, l[i]? = some p ∧ h ∈ p.f2
structure Vat (l : List S36) (n : Int) : Prop where
  ok : ∀ p ∈ l, PostV n p
  here : ∀ j h, HasAt l j h → h.f1 = j
  apart : ∀ j g h, HasAt l j g → HintAt l j h → g.f0 ≠ h.f0
  once : ∀ i j g h, HasAt l i g → HasAt l j h → g.f0 = h.f0 → g = h
  same : ∀ i j g h, HintAt l i g → HintAt l j h → g.f0 = h.f0 → g.f2 = h.f2 → g.f1 = h.f1
  older : ∀ i j g h, HasAt l i g → HintAt l j h → g.f0 = h.f0 → h.f2 < g.f2 ∨ h.f2 = g.f2 ∧ h.f1 = g.f1
theorem has_of {l : List S36} {p : S36} {h : S31} (hp : p ∈ l) (hh : h ∈ p.f1) : ∃ i, HasAt l i h := by
  obtain ⟨i, hi⟩ := List.mem_iff_getElem?.1 hp
  exact ⟨i, p, hi, hh⟩
theorem hint_of {l : List S36} {p : S36} {h : S31} (hp : p ∈ l) (hh : h ∈ p.f2) : ∃ i, HintAt l i h := by
  obtain ⟨i, hi⟩ := List.mem_iff_getElem?.1 hp
  exact ⟨i, p, hi, hh⟩
theorem vat_iff (l : List S36) (n : Int) : Val l n ↔ Vat l n := by
  constructor
  · intro h
    refine ⟨h.ok, fun j x ⟨p, hp, hx⟩ => h.here j p x hp hx, fun j g x ⟨p, hp, hg⟩ ⟨q, hq, hx⟩ => ?_, fun i j g x ⟨p, hp, hg⟩ ⟨q, hq, hx⟩ => h.once p (List.mem_of_getElem? hp) q (List.mem_of_getElem? hq) g hg x hx,
      fun i j g x ⟨p, hp, hg⟩ ⟨q, hq, hx⟩ => h.same p (List.mem_of_getElem? hp) q (List.mem_of_getElem? hq) g hg x hx, fun i j g x ⟨p, hp, hg⟩ ⟨q, hq, hx⟩ => h.older p (List.mem_of_getElem? hp) q (List.mem_of_getElem? hq) g hg x hx⟩
    rw [hp] at hq
    cases hq
    exact h.apart p (List.mem_of_getElem? hp) g hg x hx
  · intro h
    refine ⟨h.ok, fun j p x hp hx => h.here j x ⟨p, hp, hx⟩, fun p hp g hg x hx => ?_, fun p hp q hq g hg x hx => ?_, fun p hp q hq g hg x hx => ?_, fun p hp q hq g hg x hx => ?_⟩
    · obtain ⟨i, hi⟩ := List.mem_iff_getElem?.1 hp
      exact h.apart i g x ⟨p, hi, hg⟩ ⟨p, hi, hx⟩
    · obtain ⟨i, a⟩ := has_of hp hg
      obtain ⟨j, b⟩ := has_of hq hx
      exact h.once i j g x a b
    · obtain ⟨i, a⟩ := hint_of hp hg
      obtain ⟨j, b⟩ := hint_of hq hx
      exact h.same i j g x a b
    · obtain ⟨i, a⟩ := has_of hp hg
      obtain ⟨j, b⟩ := hint_of hq hx
      exact h.older i j g x a b
theorem set_at {l : List S36} {i j : Nat} {x y : S36} (hi : l[i]? = some x) : (l.set i y)[j]? = if j = i then some y else l[j]? := by
  have hl := (List.getElem?_eq_some_iff.1 hi).1
  by_cases h : j = i
  · subst h
    rw [if_pos rfl, List.getElem?_set_self hl]
  · rw [if_neg h, List.getElem?_set_ne (Ne.symm h)]
theorem has_set {l : List S36} {i j : Nat} {x y : S36} {h : S31} (hi : l[i]? = some x) : HasAt (l.set i y) j h ↔ (j = i ∧ h ∈ y.f1) ∨ (j ≠ i ∧ HasAt l j h) := by
  unfold HasAt
  rw [set_at hi]
  by_cases e : j = i
  · rw [if_pos e]
    exact ⟨fun ⟨p, hp, hh⟩ => (by cases hp; exact .inl ⟨e, hh⟩), fun hh => hh.elim (fun hh => ⟨y, rfl, hh.2⟩) (fun hh => absurd e hh.1)⟩
  · rw [if_neg e]
    exact ⟨fun hh => .inr ⟨e, hh⟩, fun hh => hh.elim (fun hh => absurd hh.1 e) (fun hh => hh.2)⟩
theorem hint_set {l : List S36} {i j : Nat} {x y : S36} {h : S31} (hi : l[i]? = some x) : HintAt (l.set i y) j h ↔ (j = i ∧ h ∈ y.f2) ∨ (j ≠ i ∧ HintAt l j h) := by
  unfold HintAt
  rw [set_at hi]
  by_cases e : j = i
  · rw [if_pos e]
    exact ⟨fun ⟨p, hp, hh⟩ => (by cases hp; exact .inl ⟨e, hh⟩), fun hh => hh.elim (fun hh => ⟨y, rfl, hh.2⟩) (fun hh => absurd e hh.1)⟩
  · rw [if_neg e]
    exact ⟨fun hh => .inr ⟨e, hh⟩, fun hh => hh.elim (fun hh => absurd hh.1 e) (fun hh => hh.2)⟩
theorem has_in {l : List S36} {i : Nat} {x : S36} {h : S31} (hi : l[i]? = some x) : HasAt l i h ↔ h ∈ x.f1 :=
  ⟨fun ⟨p, hp, hh⟩ => (by rw [hi] at hp; cases hp; exact hh), fun hh => ⟨x, hi, hh⟩⟩
theorem hint_in {l : List S36} {i : Nat} {x : S36} {h : S31} (hi : l[i]? = some x) : HintAt l i h ↔ h ∈ x.f2 :=
  ⟨fun ⟨p, hp, hh⟩ => (by rw [hi] at hp; cases hp; exact hh), fun hh => ⟨x, hi, hh⟩⟩
theorem mem_set {l : List S36} {i : Nat} {y p : S36} (h : p ∈ l.set i y) : p = y ∨ p ∈ l := by
  rcases List.mem_or_eq_of_mem_set h with h | h
  · exact .inr h
  · exact .inl h
/-- a right hint -/
structure HintV (n : Int) (h : S31) : Prop where
  oid : 1 ≤ h.f0
  t0 : 0 ≤ h.f2
  t1 : h.f2 ≤ 1099511627776
  p0 : 0 ≤ h.f1
  p1 : h.f1 < n
theorem listed_put {l : List S31} {n : Int} (h : Listed l n) {x : S31} (hx : HintV n x) (hr : atB l x.f0 = true ∨ l.length < 4000) : Listed (putL l x) n := by
  refine ⟨?_, put_sorted h.sorted x, fun y hy => ?_⟩
  · rw [put_length h.sorted]
    have := h.len
    by_cases hb : atB l x.f0 = true
    · rw [if_pos hb]; exact this
    · rw [if_neg hb]
      rcases hr with hr | hr
      · exact absurd hr hb
      · omega
  · rcases put_mem.1 hy with rfl | ⟨hy, _⟩
    · exact ⟨hx.oid, hx.t0, hx.t1, hx.p0, hx.p1⟩
    · exact h.all y hy
theorem listed_without {l : List S31} {n : Int} (h : Listed l n) (oid : Int) : Listed (withoutL l oid) n :=
  ⟨Nat.le_trans (List.length_filter_le _ _) h.len, without_sorted h.sorted oid, fun y hy => h.all y (without_mem.1 hy).1⟩
/-- where an object is -/
theorem where_some : ∀ {l : List S36} {oid : Int}, (whereL l oid).2 = true → ∃ (i : Nat) (p : S36), l[i]? = some p ∧ atB p.f1 oid = true ∧ (whereL l oid).1 = lookL p.f1 oid
  | [], oid, h => by cases h
  | p :: l, oid, h => by
    unfold whereL at h ⊢
    by_cases hb : atB p.f1 oid = true
    · rw [if_pos hb]
      exact ⟨0, p, rfl, hb, rfl⟩
    · rw [if_neg hb] at h ⊢
      obtain ⟨i, q, h1, h2⟩ := where_some h
      exact ⟨i + 1, q, by rw [List.getElem?_cons_succ]; exact h1, h2⟩
theorem where_none : ∀ {l : List S36} {oid : Int}, (whereL l oid).2 = false → ∀ p ∈ l, atB p.f1 oid = false
  | [], oid, _, p, hp => by cases hp
  | q :: l, oid, h, p, hp => by
    unfold whereL at h
    by_cases hb : atB q.f1 oid = true
    · rw [if_pos hb] at h; cases h
    · rw [if_neg hb] at h
      rcases List.mem_cons.1 hp with rfl | hp
      · simpa using hb
      · exact where_none h p hp
theorem where_has {l : List S36} {oid : Int} (h : (whereL l oid).2 = true) : (whereL l oid).1.f0 = oid ∧ ∃ i, HasAt l i (whereL l oid).1 := by
  obtain ⟨i, p, h1, h2, h3⟩ := where_some h
  obtain ⟨a, b⟩ := at_found h2
  rw [h3]
  exact ⟨b, i, p, h1, a⟩
theorem has_where {l : List S36} {n : Int} (hv : Vat l n) {i : Nat} {h : S31} (hh : HasAt l i h) : whereL l h.f0 = (h, true) := by
  cases hb : (whereL l h.f0).2 with
  | false =>
    obtain ⟨p, hp, hm⟩ := hh
    have := where_none hb p (List.mem_of_getElem? hp)
    rw [at_of_mem (hv.ok p (List.mem_of_getElem? hp)).has.sorted hm] at this
    cases this
  | true =>
    obtain ⟨a, j, hj⟩ := where_has hb
    have := hv.once j i _ h hj hh a
    exact Prod.ext this hb
theorem where_iff {l : List S36} {n : Int} (hv : Vat l n) (oid : Int) : (whereL l oid).2 = true ↔ ∃ i h, HasAt l i h ∧ h.f0 = oid :=
  ⟨fun h => by obtain ⟨a, i, b⟩ := where_has h; exact ⟨i, _, b, a⟩, fun ⟨i, h, a, b⟩ => by rw [← b, has_where hv a]⟩
theorem where_not {l : List S36} {oid : Int} (h : (whereL l oid).2 = false) : (whereL l oid).1 = ⟨0, 0, 0⟩ := by
  induction l with
  | nil => rfl
  | cons p l ih =>
    unfold whereL at h ⊢
    by_cases hb : atB p.f1 oid = true
    · rw [if_pos hb] at h; cases h
    · rw [if_neg hb] at h ⊢
      exact ih h
theorem where_ext {l l' : List S36} {n n' : Int} (hv : Vat l n) (hv' : Vat l' n') (oid : Int) (h : ∀ x : S31, x.f0 = oid → ((∃ i, HasAt l i x) ↔ ∃ i, HasAt l' i x)) : whereL l oid = whereL l' oid := by
  cases hb : (whereL l oid).2 with
  | true =>
    obtain ⟨a, b⟩ := where_has hb
    obtain ⟨j, hj⟩ := (h _ a).1 b
    have := has_where hv' hj
    rw [a] at this
    rw [this, ← hb]
  | false =>
    have h1 := where_not hb
    have h2 : (whereL l' oid).2 = false := by
      cases hb2 : (whereL l' oid).2 with
      | false => rfl
      | true =>
        obtain ⟨a, b⟩ := where_has hb2
        obtain ⟨j, hj⟩ := (h _ a).2 b
        have := has_where hv hj
        rw [a] at this
        rw [this] at hb
        cases hb
    have h3 := where_not h2
    rw [show whereL l oid = ((whereL l oid).1, (whereL l oid).2) from rfl, show whereL l' oid = ((whereL l' oid).1, (whereL l' oid).2) from rfl, h1, h2, h3, hb]
end Go.Proofs.Ytjnceoohlcchnaa.Print

/-! changes leave maps valid -/
namespace Go.Proofs.Ytjnceoohlcchnaa.Print
open Go Go.RowKit Go.Deep Go.Proofs.YtjnceoohlcchnaaW.PrintWords Go.Proofs.YtjnceoohlcchnaaW.PrintLast Go.Proofs.YtjnceoohlcchnaaW.PrintMore
theorem post_set {l : List S36} {n : Int} (hv : Vat l n) {i : Nat} {y : S36} (hy : PostV n y) : ∀ p ∈ l.set i y, PostV n p := fun p hp => by
  rcases mem_set hp with rfl | hp
  · exact hy
  · exact hv.ok p hp
theorem hint_put {l : List S36} {i j : Nat} {x : S36} {h g : S31} (hi : l[i]? = some x) : HintAt (l.set i ⟨x.f0, x.f1, putL x.f2 h⟩) j g ↔ (j = i ∧ g = h) ∨ (HintAt l j g ∧ ¬ (j = i ∧ g.f0 = h.f0)) := by
  rw [hint_set hi]
  constructor
  · rintro (⟨e, hm⟩ | ⟨e, hm⟩)
    · rcases put_mem.1 hm with rfl | ⟨hm, hn⟩
      · exact .inl ⟨e, rfl⟩
      · subst e; exact .inr ⟨(hint_in hi).2 hm, fun h => hn h.2⟩
    · exact .inr ⟨hm, fun h => e h.1⟩
  · rintro (⟨e, rfl⟩ | ⟨hm, hn⟩)
    · exact .inl ⟨e, put_mem.2 (.inl rfl)⟩
    · by_cases e : j = i
      · subst e
        exact .inl ⟨rfl, put_mem.2 (.inr ⟨(hint_in hi).1 hm, fun h => hn ⟨rfl, h⟩⟩)⟩
      · exact .inr ⟨e, hm⟩
theorem has_keep {l : List S36} {i j : Nat} {x : S36} {b : Bool} {hs : List S31} {g : S31} (hi : l[i]? = some x) : HasAt (l.set i ⟨b, x.f1, hs⟩) j g ↔ HasAt l j g := by
  rw [has_set hi]
  by_cases e : j = i
  · subst e
    rw [has_in hi]
    exact ⟨fun h => h.elim (·.2) (fun h => absurd rfl h.1), fun h => .inl ⟨rfl, h⟩⟩
  · exact ⟨fun h => h.elim (fun h => absurd h.1 e) (·.2), fun h => .inr ⟨e, h⟩⟩
theorem hint_keep {l : List S36} {i j : Nat} {x : S36} {b : Bool} {hs : List S31} {g : S31} (hi : l[i]? = some x) : HintAt (l.set i ⟨b, hs, x.f2⟩) j g ↔ HintAt l j g := by
  rw [hint_set hi]
  by_cases e : j = i
  · subst e
    rw [hint_in hi]
    exact ⟨fun h => h.elim (·.2) (fun h => absurd rfl h.1), fun h => .inl ⟨rfl, h⟩⟩
  · exact ⟨fun h => h.elim (fun h => absurd h.1 e) (·.2), fun h => .inr ⟨e, h⟩⟩
theorem hint_drop {l : List S36} {i j : Nat} {x : S36} {oid : Int} {b : Bool} {hs : List S31} {g : S31} (hi : l[i]? = some x) : HintAt (l.set i ⟨b, hs, withoutL x.f2 oid⟩) j g ↔ HintAt l j g ∧ ¬ (j = i ∧ g.f0 = oid) := by
  rw [hint_set hi]
  by_cases e : j = i
  · subst e
    rw [hint_in hi, without_mem]
    exact ⟨fun h => h.elim (fun h => ⟨h.2.1, fun e => h.2.2 e.2⟩) (fun h => absurd rfl h.1), fun h => .inl ⟨rfl, h.1, fun e => h.2 ⟨rfl, e⟩⟩⟩
  · exact ⟨fun h => h.elim (fun h => absurd h.1 e) (fun h => ⟨h.2, fun h => e h.1⟩), fun h => .inr ⟨e, h.1⟩⟩
theorem has_drop {l : List S36} {i j : Nat} {x : S36} {oid : Int} {b : Bool} {hs : List S31} {g : S31} (hi : l[i]? = some x) : HasAt (l.set i ⟨b, withoutL x.f1 oid, hs⟩) j g ↔ HasAt l j g ∧ ¬ (j = i ∧ g.f0 = oid) := by
  rw [has_set hi]
  by_cases e : j = i
  · subst e
    rw [has_in hi, without_mem]
    exact ⟨fun h => h.elim (fun h => ⟨h.2.1, fun e => h.2.2 e.2⟩) (fun h => absurd rfl h.1), fun h => .inl ⟨rfl, h.1, fun e => h.2 ⟨rfl, e⟩⟩⟩
  · exact ⟨fun h => h.elim (fun h => absurd h.1 e) (fun h => ⟨h.2, fun h => e h.1⟩), fun h => .inr ⟨e, h.1⟩⟩
theorem has_put {l : List S36} {i j : Nat} {x : S36} {b : Bool} {hs : List S31} {h g : S31} (hi : l[i]? = some x) : HasAt (l.set i ⟨b, putL x.f1 h, hs⟩) j g ↔ (j = i ∧ g = h) ∨ (HasAt l j g ∧ ¬ (j = i ∧ g.f0 = h.f0)) := by
  rw [has_set hi]
  constructor
  · rintro (⟨e, hm⟩ | ⟨e, hm⟩)
    · rcases put_mem.1 hm with rfl | ⟨hm, hn⟩
      · exact .inl ⟨e, rfl⟩
      · subst e; exact .inr ⟨(has_in hi).2 hm, fun h => hn h.2⟩
    · exact .inr ⟨hm, fun h => e h.1⟩
  · rintro (⟨e, rfl⟩ | ⟨hm, hn⟩)
    · exact .inl ⟨e, put_mem.2 (.inl rfl)⟩
    · by_cases e : j = i
      · subst e
        exact .inl ⟨rfl, put_mem.2 (.inr ⟨(has_in hi).1 hm, fun h => hn ⟨rfl, h⟩⟩)⟩
      · exact .inr ⟨e, hm⟩
/-- a hint that agrees with what is known -/
def Agrees (l : List S36) (h : S31) : Prop := (∀ (j : Nat) (g : S31), HintAt l j g → g.f0 = h.f0 → g.f2 = h.f2 → g.f1 = h.f1) ∧ (∀ (j : Nat) (g : S31), HasAt l j g → g.f0 = h.f0 → h.f2 < g.f2 ∨ h.f2 = g.f2 ∧ h.f1 = g.f1)
theorem vat_put {l : List S36} {n : Int} (hv : Vat l n) {i : Nat} {x : S36} (hi : l[i]? = some x) {h : S31} (hh : HintV n h) (hup : x.f0 = true) (hn : atB x.f1 h.f0 = false) (hr : atB x.f2 h.f0 = true ∨ x.f2.length < 4000) (ha : Agrees l h) :
    Vat (l.set i ⟨x.f0, x.f1, putL x.f2 h⟩) n := by
  have hx := hv.ok x (List.mem_of_getElem? hi)
  refine ⟨post_set hv ⟨hx.has, listed_put hx.hints hh hr, fun e => by rw [hup] at e; cases e⟩, fun j g hg => hv.here j g ((has_keep hi).1 hg), fun j g g2 hg hg2 => ?_, fun j k g g2 hg hg2 => hv.once j k g g2 ((has_keep hi).1 hg) ((has_keep hi).1 hg2), fun j k g g2 hg hg2 e1 e2 => ?_, fun j k g g2 hg hg2 e => ?_⟩
  · have hg' := (has_keep hi).1 hg
    rcases (hint_put hi).1 hg2 with ⟨rfl, rfl⟩ | ⟨h2, _⟩
    · intro e
      rw [← e, at_of_mem hx.has.sorted ((has_in hi).1 hg')] at hn
      cases hn
    · exact hv.apart j g g2 hg' h2
  · rcases (hint_put hi).1 hg with ⟨_, rfl⟩ | ⟨h1, _⟩ <;> rcases (hint_put hi).1 hg2 with ⟨_, rfl⟩ | ⟨h2, _⟩
    · rfl
    · exact (ha.1 k g2 h2 e1.symm e2.symm).symm
    · exact ha.1 j g h1 e1 e2
    · exact hv.same j k g g2 h1 h2 e1 e2
  · have hg' := (has_keep hi).1 hg
    rcases (hint_put hi).1 hg2 with ⟨_, rfl⟩ | ⟨h2, _⟩
    · exact ha.2 j g hg' e
    · exact hv.older j k g g2 hg' h2 e
theorem tell_cases {l : List S36} {i : Nat} {x : S36} (hi : l[i]? = some x) (h : S31) :
    ((tellF l i h).2 = l ∧ ((tellF l i h).1 = true → atB x.f1 h.f0 = true ∨ atB x.f2 h.f0 = true ∧ h.f2 ≤ (lookL x.f2 h.f0).f2)) ∨
    (tellF l i h = (true, l.set i ⟨x.f0, x.f1, putL x.f2 h⟩) ∧ atB x.f1 h.f0 = false ∧ (atB x.f2 h.f0 = true ∧ (lookL x.f2 h.f0).f2 < h.f2 ∨ atB x.f2 h.f0 = false ∧ x.f2.length < 4000)) := by
  unfold tellF
  rw [postA_some hi]
  by_cases h1 : atB x.f1 h.f0 = true
  · rw [if_pos h1]
    exact .inl ⟨rfl, fun _ => .inl h1⟩
  rw [if_neg h1]
  by_cases h2 : (atB x.f2 h.f0 && decide (h.f2 ≤ (lookL x.f2 h.f0).f2)) = true
  · rw [if_pos h2]
    rw [Bool.and_eq_true, decide_eq_true_iff] at h2
    exact .inl ⟨rfl, fun _ => .inr h2⟩
  rw [if_neg h2]
  by_cases h3 : (!atB x.f2 h.f0 && decide (4000 ≤ x.f2.length)) = true
  · rw [if_pos h3]
    exact .inl ⟨rfl, fun e => by cases e⟩
  rw [if_neg h3]
  refine .inr ⟨rfl, by simpa using h1, ?_⟩
  cases hb : atB x.f2 h.f0 with
  | true =>
    rw [hb] at h2
    have : ¬ h.f2 ≤ (lookL x.f2 h.f0).f2 := by simpa using h2
    exact .inl ⟨rfl, by omega⟩
  | false =>
    rw [hb] at h3
    have : ¬ 4000 ≤ x.f2.length := by simpa using h3
    exact .inr ⟨rfl, by omega⟩
theorem tell_len (l : List S36) (i : Nat) (h : S31) : (tellF l i h).2.length = l.length := by
  unfold tellF
  split
  · rfl
  split
  · rfl
  split
  · rfl
  exact List.length_set
theorem vat_tell {l : List S36} {n : Int} (hv : Vat l n) {i : Nat} {x : S36} (hi : l[i]? = some x) {h : S31} (hh : HintV n h) (hup : x.f0 = true) (ha : Agrees l h) : Vat (tellF l i h).2 n := by
  rcases tell_cases hi h with ⟨e, _⟩ | ⟨e, hn, hr⟩
  · rw [e]; exact hv
  · rw [e]
    exact vat_put hv hi hh hup hn (hr.elim (fun h => .inl h.1) (fun h => .inr h.2)) ha
/-- what tells agree on, they agree on behind a tell -/
theorem agrees_tell {l : List S36} {i : Nat} {x : S36} (hi : l[i]? = some x) {h : S31} (ha : Agrees l h) : Agrees (tellF l i h).2 h := by
  rcases tell_cases hi h with ⟨e, _⟩ | ⟨e, hn, hr⟩
  · rw [e]; exact ha
  · rw [e]
    refine ⟨fun j g hg e1 e2 => ?_, fun j g hg => ha.2 j g ((has_keep hi).1 hg)⟩
    rcases (hint_put hi).1 hg with ⟨_, rfl⟩ | ⟨h1, _⟩
    · rfl
    · exact ha.1 j g h1 e1 e2
/-- what an object's own place says agrees -/
theorem agrees_has {l : List S36} {n : Int} (hv : Vat l n) {i : Nat} {h : S31} (hh : HasAt l i h) : Agrees l h :=
  ⟨fun j g hg e1 e2 => (hv.older i j h g hh hg e1.symm).elim (fun c => by omega) (fun c => c.2), fun j g hg e => by
    rw [hv.once j i g h hg hh e]; exact .inr ⟨rfl, rfl⟩⟩
theorem has_hintV {l : List S36} {n : Int} (hv : Vat l n) {i : Nat} {h : S31} (hh : HasAt l i h) : HintV n h := by
  obtain ⟨p, hp, hm⟩ := hh
  obtain ⟨a, b, c, d, e⟩ := (hv.ok p (List.mem_of_getElem? hp)).has.all h hm
  exact ⟨a, b, c, d, e⟩
theorem vat_forget {l : List S36} {n : Int} (hv : Vat l n) {i : Nat} {x : S36} (hi : l[i]? = some x) (oid : Int) : Vat (l.set i ⟨x.f0, x.f1, withoutL x.f2 oid⟩) n := by
  have hx := hv.ok x (List.mem_of_getElem? hi)
  refine ⟨post_set hv ⟨hx.has, listed_without hx.hints oid, fun e => ?_⟩, fun j g hg => hv.here j g ((has_keep hi).1 hg), fun j g g2 hg hg2 => hv.apart j g g2 ((has_keep hi).1 hg) ((hint_drop hi).1 hg2).1, fun j k g g2 hg hg2 => hv.once j k g g2 ((has_keep hi).1 hg) ((has_keep hi).1 hg2),
    fun j k g g2 hg hg2 => hv.same j k g g2 ((hint_drop hi).1 hg).1 ((hint_drop hi).1 hg2).1, fun j k g g2 hg hg2 => hv.older j k g g2 ((has_keep hi).1 hg) ((hint_drop hi).1 hg2).1⟩
  obtain ⟨a, b⟩ := hx.down e
  refine ⟨a, ?_⟩
  show withoutL x.f2 oid = []
  rw [b]; rfl
theorem vat_make {l : List S36} {n : Int} (hv : Vat l n) {i : Nat} {x : S36} (hi : l[i]? = some x) (hin : (i : Int) < n) {oid : Int} (ho : 1 ≤ oid) (hup : x.f0 = true) (hr : x.f1.length < 4000) (hk : ∀ p ∈ l, atB p.f1 oid = false ∧ atB p.f2 oid = false) :
    Vat (l.set i ⟨x.f0, putL x.f1 ⟨oid, i, 0⟩, x.f2⟩) n := by
  have hx := hv.ok x (List.mem_of_getElem? hi)
  have hk1 : ∀ j g, HasAt l j g → g.f0 ≠ oid := fun j g ⟨p, hp, hg⟩ e => by
    have h := (hk p (List.mem_of_getElem? hp)).1
    rw [← e, at_of_mem (hv.ok p (List.mem_of_getElem? hp)).has.sorted hg] at h
    cases h
  have hk2 : ∀ j g, HintAt l j g → g.f0 ≠ oid := fun j g ⟨p, hp, hg⟩ e => by
    have h := (hk p (List.mem_of_getElem? hp)).2
    rw [← e, at_of_mem (hv.ok p (List.mem_of_getElem? hp)).hints.sorted hg] at h
    cases h
  refine ⟨post_set hv ⟨listed_put hx.has ⟨ho, by simp, by simp, by simp, hin⟩ (.inr hr), hx.hints, fun e => by rw [hup] at e; cases e⟩, fun j g hg => ?_, fun j g g2 hg hg2 => ?_, fun j k g g2 hg hg2 e => ?_, fun j k g g2 hg hg2 => hv.same j k g g2 ((hint_keep hi).1 hg) ((hint_keep hi).1 hg2), fun j k g g2 hg hg2 e => ?_⟩
  · rcases (has_put hi).1 hg with ⟨rfl, rfl⟩ | ⟨h1, _⟩
    · rfl
    · exact hv.here j g h1
  · have hg2' := (hint_keep hi).1 hg2
    rcases (has_put hi).1 hg with ⟨rfl, rfl⟩ | ⟨h1, _⟩
    · exact fun e => hk2 j g2 hg2' e.symm
    · exact hv.apart j g g2 h1 hg2'
  · rcases (has_put hi).1 hg with ⟨_, rfl⟩ | ⟨h1, _⟩ <;> rcases (has_put hi).1 hg2 with ⟨_, rfl⟩ | ⟨h2, _⟩
    · rfl
    · exact absurd e.symm (hk1 k g2 h2)
    · exact absurd e (hk1 j g h1)
    · exact hv.once j k g g2 h1 h2 e
  · have hg2' := (hint_keep hi).1 hg2
    rcases (has_put hi).1 hg with ⟨_, rfl⟩ | ⟨h1, _⟩
    · exact absurd e.symm (hk2 k g2 hg2')
    · exact hv.older j k g g2 h1 hg2' e
/-- a move: what is there behind it -/
structure Moved (l l' : List S36) (a b : Nat) (h next : S31) : Prop where
  has : ∀ j g, HasAt l' j g ↔ (j = b ∧ g = next) ∨ (HasAt l j g ∧ g.f0 ≠ h.f0)
  hints : ∀ j g, HintAt l' j g ↔ (j = a ∧ g = next) ∨ (HintAt l j g ∧ ¬ (g.f0 = h.f0 ∧ (j = a ∨ j = b)))
theorem moved_is {l : List S36} {n : Int} (hv : Vat l n) {a b : Nat} {x y : S36} {h next : S31} (hab : a ≠ b) (ha : l[a]? = some x) (hb : l[b]? = some y) (hh : HasAt l a h) (hn : next.f0 = h.f0) : Moved l (moveL l a b h.f0 next x y) a b h next := by
  have hb2 : (l.set a ⟨x.f0, withoutL x.f1 h.f0, putL x.f2 next⟩)[b]? = some y := by rw [set_at ha, if_neg (Ne.symm hab)]; exact hb
  constructor
  · intro j g
    unfold moveL
    rw [has_put hb2, has_drop ha]
    constructor
    · rintro (c | ⟨⟨h1, h2⟩, h3⟩)
      · exact .inl c
      · refine .inr ⟨h1, fun e => h2 ⟨?_, e⟩⟩
        have e2 := hv.once j a g h h1 hh e
        subst e2
        have c1 := hv.here j _ h1
        have c2 := hv.here a _ hh
        omega
    · rintro (c | ⟨h1, h2⟩)
      · exact .inl c
      · exact .inr ⟨⟨h1, fun e => h2 e.2⟩, fun e => h2 (by rw [e.2, hn])⟩
  · intro j g
    unfold moveL
    rw [hint_drop hb2]
    have e : HintAt (l.set a ⟨x.f0, withoutL x.f1 h.f0, putL x.f2 next⟩) j g ↔ (j = a ∧ g = next) ∨ (HintAt l j g ∧ ¬ (j = a ∧ g.f0 = next.f0)) := by
      rw [hint_set ha, ← hint_put ha, hint_set ha]
    rw [e, hn]
    constructor
    · rintro ⟨c | ⟨h1, h2⟩, h3⟩
      · exact .inl c
      · exact .inr ⟨h1, fun c => c.2.elim (fun e => h2 ⟨e, c.1⟩) (fun e => h3 ⟨e, c.1⟩)⟩
    · rintro (c | ⟨h1, h2⟩)
      · exact ⟨.inl c, fun c2 => hab (c.1.symm.trans c2.1)⟩
      · exact ⟨.inr ⟨h1, fun c => h2 ⟨c.2, .inl c.1⟩⟩, fun c => h2 ⟨c.2, .inr c.1⟩⟩
theorem vat_move {l : List S36} {n : Int} (hv : Vat l n) {a b : Nat} {x y : S36} {h : S31} (hab : a ≠ b) (ha : l[a]? = some x) (hb : l[b]? = some y) (hbn : (b : Int) < n) (hh : HasAt l a h) (hup : y.f0 = true) (ht : h.f2 < 1099511627776) (hr1 : y.f1.length < 4000) (hr2 : x.f2.length < 4000) :
    Vat (moveL l a b h.f0 ⟨h.f0, b, h.f2 + 1⟩ x y) n := by
  have hm := moved_is hv hab ha hb hh (next := ⟨h.f0, b, h.f2 + 1⟩) rfl
  have hx := hv.ok x (List.mem_of_getElem? ha)
  have hy := hv.ok y (List.mem_of_getElem? hb)
  have hhv := has_hintV hv hh
  have hnv : HintV n ⟨h.f0, b, h.f2 + 1⟩ := ⟨hhv.oid, (by have := hhv.t0; show 0 ≤ h.f2 + 1; omega), (by show h.f2 + 1 ≤ _; omega), (by show (0:Int) ≤ (b:Int); omega), hbn⟩
  have hxup : x.f0 = true := by
    cases hq : x.f0 with
    | true => rfl
    | false =>
      have hm := (has_in ha).1 hh
      rw [(hx.down hq).1] at hm
      cases hm
  refine ⟨fun p hp => ?_, fun j g hg => ?_, fun j g g2 hg hg2 => ?_, fun j k g g2 hg hg2 e => ?_, fun j k g g2 hg hg2 e1 e2 => ?_, fun j k g g2 hg hg2 e => ?_⟩
  · unfold moveL at hp
    rcases mem_set hp with rfl | hp
    · exact ⟨listed_put hy.has hnv (.inr hr1), listed_without hy.hints _, fun e => by rw [hup] at e; cases e⟩
    · rcases mem_set hp with rfl | hp
      · exact ⟨listed_without hx.has _, listed_put hx.hints hnv (.inr hr2), fun e => by rw [hxup] at e; cases e⟩
      · exact hv.ok p hp
  · rcases (hm.has j g).1 hg with ⟨rfl, rfl⟩ | ⟨h1, _⟩
    · rfl
    · exact hv.here j g h1
  · rcases (hm.has j g).1 hg with ⟨rfl, rfl⟩ | ⟨h1, h3⟩
    · rcases (hm.hints j g2).1 hg2 with ⟨e, _⟩ | ⟨h2, h4⟩
      · exact absurd e.symm hab
      · exact fun e => h4 ⟨e.symm, .inr rfl⟩
    · rcases (hm.hints j g2).1 hg2 with ⟨_, rfl⟩ | ⟨h2, h4⟩
      · exact h3
      · exact hv.apart j g g2 h1 h2
  · rcases (hm.has j g).1 hg with ⟨rfl, rfl⟩ | ⟨h1, h3⟩ <;> rcases (hm.has k g2).1 hg2 with ⟨_, rfl⟩ | ⟨h2, h4⟩
    · rfl
    · exact absurd e.symm h4
    · exact absurd e h3
    · exact hv.once j k g g2 h1 h2 e
  · rcases (hm.hints j g).1 hg with ⟨rfl, rfl⟩ | ⟨h1, h3⟩ <;> rcases (hm.hints k g2).1 hg2 with ⟨_, rfl⟩ | ⟨h2, h4⟩
    · rfl
    · rcases hv.older _ k h g2 hh h2 e1 with c | c
      · simp at e2; omega
      · simp at e2; omega
    · rcases hv.older _ j h g hh h1 e1.symm with c | c
      · simp at e2; omega
      · simp at e2; omega
    · exact hv.same j k g g2 h1 h2 e1 e2
  · rcases (hm.has j g).1 hg with ⟨rfl, rfl⟩ | ⟨h1, h3⟩
    · rcases (hm.hints k g2).1 hg2 with ⟨_, rfl⟩ | ⟨h2, h4⟩
      · exact .inr ⟨rfl, rfl⟩
      · rcases hv.older a k h g2 hh h2 e with c | c
        · left; simp; omega
        · left; simp; omega
    · rcases (hm.hints k g2).1 hg2 with ⟨_, rfl⟩ | ⟨h2, h4⟩
      · exact absurd e h3
      · exact hv.older j k g g2 h1 h2 e
end Go.Proofs.Ytjnceoohlcchnaa.Print

/-! where an object is, in a valid map -/
namespace Go.Proofs.Ytjnceoohlcchnaa.Print
open Go Go.RowKit Go.Deep Go.Proofs.YtjnceoohlcchnaaW.PrintWords Go.Proofs.YtjnceoohlcchnaaW.PrintLast Go.Proofs.YtjnceoohlcchnaaW.PrintMore
theorem check_vat {l : List S36} (h : checkF l = true) : Vat l l.length := (vat_iff _ _).1 ((check_iff l).1 h).val
theorem has_here {l : List S36} {n : Int} (hv : Vat l n) {oid : Int} (h : (whereL l oid).2 = true) :
    ∃ (a : Nat) (x : S36), (whereL l oid).1.f1 = (a : Int) ∧ l[a]? = some x ∧ HasAt l a (whereL l oid).1 ∧ (whereL l oid).1.f0 = oid ∧ HintV n (whereL l oid).1 := by
  obtain ⟨e, i, hi⟩ := where_has h
  have hh := hv.here i _ hi
  obtain ⟨p, hp, hm⟩ := hi
  exact ⟨i, p, hh, hp, ⟨p, hp, hm⟩, e, has_hintV hv ⟨p, hp, hm⟩⟩
end Go.Proofs.Ytjnceoohlcchnaa.Print

/-! A move. -/
namespace Go.Proofs.Ytjnceoohlcchnaa.Print
open Go Go.RowKit Go.Deep Go.Proofs.YtjnceoohlcchnaaW.PrintWords Go.Proofs.YtjnceoohlcchnaaW.PrintLast Go.Proofs.YtjnceoohlcchnaaW.PrintMore

theorem size_set (w : World) (p : Addr) (u : Value) : w.heap.size ≤ (w.setCell p u).heap.size := by
  unfold World.setCell
  simp
set_option maxRecDepth 100000 in
set_option maxHeartbeats 8000000 in
theorem Move_any (A : Option Addr) (n c : Nat) (l : List S36) (oid place : Int) (w : World) (hn : n = l.length) (hr : Kd.C k36 w A l.length l) (hc : n ≤ c) (hl : Short l) :
    Calls Try.prog 20 #[.slice A n c, .int .i64 oid, .int .i64 place] w fun e w' => ∃ A2 c2, e = .returned (.tuple #[.slice A2 (moveF l oid place).1.length c2, .int .i64 (moveF l oid place).2]) ∧ (moveF l oid place).1.length ≤ c2 ∧ Kd.C k36 w' A2 (moveF l oid place).1.length (moveF l oid place).1 ∧ Below w.heap.size w w' := by
  subst hn
  have HR := Aside0.mk hr
  have HS := Aside0.mk hl
  have hl6 := hl.1
  clear hr hl
  go_enter Try.func20, Try.ntmps20
  go_wp2_with fail
  obtain ⟨g0, hg0⟩ : ∃ g, g = w.heap.size := ⟨_, rfl⟩
  obtain ⟨w1, hw1⟩ : ∃ w1, w1 = w.alloc (Obj.cells #[Value.int IntKind.i64 place] 3) := ⟨_, rfl⟩
  rw [← hw1, ← hg0]
  have HB1 : Aside0 (Below w.heap.size w w1) := ⟨by rw [hw1]; exact below_alloc (Below.refl _ _) _⟩
  have HP1 : Aside0 (Kd.C (Kd.int .i64) w1 (some ⟨g0, 0, none⟩) 1 [place]) := ⟨one_ints w1 place (by rw [hw1, hg0]; exact heap_alloc_new _ _)⟩
  clear hw1 hg0
  obtain ⟨ok, hok⟩ : ∃ ok, ok = decide (1 ≤ oid) := ⟨_, rfl⟩
  rw [← hok]
  refine (given_any A l.length c l ok (some ⟨g0, 0, none⟩) 1 1 [place] w1 rfl (Kd.C_below HR.out HB1.out) hc HS.out rfl HP1.out (Nat.le_refl _) (by simp)).mono ?_
  rintro e w2 ⟨v, rfl, hB, hv0, hv1⟩
  have HB2 : Aside0 (Below w.heap.size w w2) := ⟨HB1.out.trans (hB.mono HB1.out.size)⟩
  by_cases hgc : givenC l ok [place] = 0
  rotate_left
  · have HV : Aside0 (moveF l oid place = ([], givenC l ok [place])) := ⟨by unfold moveF; rw [← hok, if_neg hgc]⟩
    have hv := hv1 hgc
    subst hv
    obtain ⟨gc, hgc2⟩ : ∃ gc, gc = givenC l ok [place] := ⟨_, rfl⟩
    rw [← hgc2] at hgc HV ⊢
    have dg : (gc != 0) = true := by rw [bne_iff_ne]; exact hgc
    clear hgc hgc2 hok hv0 hv1 hB
    go_wp2_with fail
    go_returns
    exact ⟨none, 0, by rw [HV.out]; rfl, by rw [HV.out]; exact Nat.le_refl _, by rw [HV.out]; exact Kd.C_nil _ _, HB2.out⟩
  have HM := Aside0.mk (check_vat (given_in hgc).2.1)
  obtain ⟨b, hpb, hbl, hy⟩ := given_post hgc
  obtain ⟨y, hye⟩ : ∃ y, y = postA l place := ⟨_, rfl⟩
  have HV : Aside0 (moveF l oid place = (if (whereL l oid).2 = true then
      (if (!y.f0 || (whereL l oid).1.f1 == place) = true then ([], 1)
      else if (decide (1099511627776 ≤ (whereL l oid).1.f2) || decide (4000 ≤ y.f1.length) || decide (4000 ≤ (postA l (whereL l oid).1.f1).f2.length)) = true then ([], 2)
      else (moveL l (whereL l oid).1.f1.toNat place.toNat oid ⟨oid, place, (whereL l oid).1.f2 + 1⟩ (postA l (whereL l oid).1.f1) y, 0)) else ([], 3))) := ⟨by unfold moveF; rw [← hok, if_pos hgc, hye]⟩
  rw [← hye] at hy
  subst hpb
  obtain ⟨g, cap, rfl, hO, hcap, hbg, hg2⟩ := own_of (hv0 hgc) (by omega)
  rw [hgc]
  have HO := Aside0.mk hO
  have HY := Aside0.mk hy
  have HBG : Aside0 (w.heap.size ≤ g) := ⟨Nat.le_trans HB1.out.size hbg⟩
  have HBG1 : Aside0 (w1.heap.size ≤ g ∧ w1.heap.size ≤ w2.heap.size) := ⟨hbg, by omega⟩
  clear hgc hok hv0 hv1 hO hy hB hg2 hye hbg
  go_wp2_with fail
  refine (where_any (some ⟨g, 0, none⟩) l.length cap l oid w2 rfl HO.out.C hcap HS.out).mono ?_
  rintro e w3 ⟨rfl, hB⟩
  have HB3 := Aside0.mk (below_step HB2.out hB)
  have HO3 := Aside0.mk (HO.out.below hB)
  have HS3 : Aside0 (w1.heap.size ≤ w3.heap.size) := ⟨Nat.le_trans HBG1.out.2 hB.size⟩
  clear hB
  cases his : (whereL l oid).2 with
  | false =>
    have HV2 : Aside0 (moveF l oid b = ([], 3)) := ⟨by rw [HV.out, his]; rfl⟩
    obtain ⟨h, hh⟩ : ∃ h, h = (whereL l oid).1 := ⟨_, rfl⟩
    rw [← hh]
    clear hh his HV
    unfold hintV
    go_wp2_with fail
    go_returns
    exact ⟨none, 0, by rw [HV2.out]; rfl, by rw [HV2.out]; exact Nat.le_refl _, by rw [HV2.out]; exact Kd.C_nil _ _, below_alloc HB3.out _⟩
  | true =>
    obtain ⟨a, x, ha, hx, _, h0, hhv⟩ := has_here HM.out his
    rw [his, if_pos rfl] at HV
    obtain ⟨h, hh⟩ : ∃ h, h = (whereL l oid).1 := ⟨_, rfl⟩
    rw [← hh] at HV ha h0 hhv ⊢
    obtain ⟨k0, k1, k2⟩ := h
    dsimp only at HV ha h0 hhv
    subst ha h0
    rw [postA_some hx] at HV
    have ht0 : 0 ≤ k2 := hhv.t0
    have ht1 : k2 ≤ 1099511627776 := hhv.t1
    have HX := Aside0.mk hx
    have hal := (List.getElem?_eq_some_iff.1 hx).1
    have da : decide (a < l.length) = true := decide_eq_true hal
    have db : decide (b < l.length) = true := decide_eq_true hbl
    clear hh his hx hhv
    unfold hintV
    dsimp only
    go_upto_region 5 with fail
    obtain ⟨w4, hw4⟩ : ∃ w4, w4 = w3.alloc (Obj.cells #[Value.int IntKind.i64 k0, Value.int IntKind.i64 (a : Int), Value.int IntKind.i64 k2] 31) := ⟨_, rfl⟩
    obtain ⟨gh, hgh⟩ : ∃ g, g = w3.heap.size := ⟨_, rfl⟩
    rw [← hw4, ← hgh]
    have HN4 : Aside0 (w4.heap[gh]? = some (.cells #[.int .i64 k0, .int .i64 (a : Int), .int .i64 k2] 31 (0, 0))) := ⟨by rw [hw4, hgh]; exact heap_alloc_new _ _⟩
    have HB4 : Aside0 (Below w.heap.size w w4) := ⟨by rw [hw4]; exact below_alloc HB3.out _⟩
    have HO4 : Aside0 (Own w4 w1.heap.size g cap l) := ⟨by rw [hw4]; exact HO3.out.below (below_alloc (Below.refl _ _) _)⟩
    have HS4 : Aside0 (w1.heap.size ≤ w4.heap.size) := ⟨by have h := HS3.out; rw [hw4]; simp; omega⟩
    clear hw4 hgh HO3 HO
    obtain ⟨n0, n1, n2, m0, m1, m2⟩ := blk3 HN4.out
    obtain ⟨A1, c1, A2, c2, q0, q1, q2, f0, f1, f2, r1, r2, hc1, hc2⟩ := HO4.out.cells HX.out
    obtain ⟨B1, d1, B2, d2, p0, p1, p2, e0, e1, e2, s1, s2, hd1, hd2⟩ := HO4.out.cells HY.out
    have HC1 := Aside0.mk (Kd.R_reads' r1).2.2
    have hsx := HS.out.2 x (List.mem_of_getElem? HX.out)
    have hsy := HS.out.2 y (List.mem_of_getElem? HY.out)
    have hsx1 := hsx.1
    clear r1 r2 s1 s2 hsx hsy f0 f1 f2 e0 e1 e2
    go_upto_region 7 with fail
    go_region
    obtain ⟨u, hu⟩ : ∃ u, u = y.f0 := ⟨_, rfl⟩
    rw [← hu] at p0 HV
    cases u with
    | false =>
      have HV2 : Aside0 (moveF l k0 b = ([], 1)) := ⟨by rw [HV.out]; rfl⟩
      clear HV hu
      go_wp2_with fail
      go_returns
      exact ⟨none, 0, by rw [HV2.out]; rfl, by rw [HV2.out]; exact Nat.le_refl _, by rw [HV2.out]; exact Kd.C_nil _ _, below_drew HB4.out⟩
    | true =>
      by_cases hab : a = b
      · have HV2 : Aside0 (moveF l k0 b = ([], 1)) := ⟨by rw [HV.out, if_pos (by rw [hab]; simp)]⟩
        have dab : ((a : Int) == (b : Int)) = true := by rw [beq_iff_eq]; omega
        clear HV hu hab
        go_wp2_with fail
        go_returns
        exact ⟨none, 0, by rw [HV2.out]; rfl, by rw [HV2.out]; exact Nat.le_refl _, by rw [HV2.out]; exact Kd.C_nil _ _, below_drew HB4.out⟩
      have dab : ((a : Int) == (b : Int)) = false := by rw [beq_eq_false_iff_ne]; omega
      have HAB := Aside0.mk hab
      replace HV : Aside0 (moveF l k0 b = if (decide (1099511627776 ≤ k2) || decide (4000 ≤ y.f1.length) || decide (4000 ≤ x.f2.length)) = true then ([], 2) else (moveL l a b k0 ⟨k0, b, k2 + 1⟩ x y, 0)) := ⟨by rw [HV.out, if_neg (by rw [dab]; simp)]; rfl⟩
      have HUP := Aside0.mk hu
      clear hab hu
      by_cases g1 : 1099511627776 ≤ k2
      · have HV2 : Aside0 (moveF l k0 b = ([], 2)) := ⟨by rw [HV.out, decide_eq_true g1]; rfl⟩
        have dg1 : decide (1099511627776 ≤ k2) = true := decide_eq_true g1
        clear HV
        go_wp2_with fail
        go_returns
        exact ⟨none, 0, by rw [HV2.out]; rfl, by rw [HV2.out]; exact Nat.le_refl _, by rw [HV2.out]; exact Kd.C_nil _ _, below_drew HB4.out⟩
      have dg1 : decide (1099511627776 ≤ k2) = false := decide_eq_false g1
      by_cases g2 : 4000 ≤ y.f1.length
      · have HV2 : Aside0 (moveF l k0 b = ([], 2)) := ⟨by rw [HV.out, decide_eq_true g2]; simp⟩
        have dg2 : decide ((4000 : Int) ≤ (y.f1.length : Int)) = true := decide_eq_true (by omega)
        clear HV
        go_wp2_with fail
        go_returns
        exact ⟨none, 0, by rw [HV2.out]; rfl, by rw [HV2.out]; exact Nat.le_refl _, by rw [HV2.out]; exact Kd.C_nil _ _, below_drew HB4.out⟩
      have dg2 : decide ((4000 : Int) ≤ (y.f1.length : Int)) = false := decide_eq_false (by omega)
      by_cases g3 : 4000 ≤ x.f2.length
      · have HV2 : Aside0 (moveF l k0 b = ([], 2)) := ⟨by rw [HV.out, decide_eq_true g3]; simp⟩
        have dg3 : decide ((4000 : Int) ≤ (x.f2.length : Int)) = true := decide_eq_true (by omega)
        clear HV
        go_wp2_with fail
        go_returns
        exact ⟨none, 0, by rw [HV2.out]; rfl, by rw [HV2.out]; exact Nat.le_refl _, by rw [HV2.out]; exact Kd.C_nil _ _, below_drew HB4.out⟩
      have dg3 : decide ((4000 : Int) ≤ (x.f2.length : Int)) = false := decide_eq_false (by omega)
      have HV2 : Aside0 (moveF l k0 b = (moveL l a b k0 ⟨k0, b, k2 + 1⟩ x y, 0)) := ⟨by rw [HV.out, decide_eq_false g1, decide_eq_false g2, decide_eq_false g3]; rfl⟩
      have hk2 : k2 < 1099511627776 := by omega
      have hw : IntKind.i64.wrap (k2 + 1) = k2 + 1 := by rw [IntKind.wrap_i64]; omega
      clear HV g1 g2 g3
      go_upto_region 13 with fail
      clear n0 n1 n2 m0 m1 m2 q0 q1 q2 p0 p1 p2
      obtain ⟨w5, hw5⟩ : ∃ w5, w5 = (w4.alloc (Obj.cells #[Value.int IntKind.i64 k0, Value.int IntKind.i64 (b : Int), Value.int IntKind.i64 (k2 + 1)] 31)).drew := ⟨_, rfl⟩
      obtain ⟨gn, hgn⟩ : ∃ g, g = w4.heap.size := ⟨_, rfl⟩
      rw [← hw5, ← hgn]
      have HN5 : Aside0 (w5.heap[gn]? = some (.cells #[.int .i64 k0, .int .i64 (b : Int), .int .i64 (k2 + 1)] 31 (0, 0))) := ⟨by rw [hw5, hgn]; exact heap_alloc_new w4 _⟩
      have hB45 : Below w4.heap.size w4 w5 := by rw [hw5]; exact below_drew (below_alloc (Below.refl _ _) _)
      have HB5 := Aside0.mk (below_step HB4.out hB45)
      have HO5 := Aside0.mk (HO4.out.below hB45)
      have HS5 : Aside0 (w1.heap.size ≤ w5.heap.size) := ⟨Nat.le_trans HS4.out hB45.size⟩
      have HNG : Aside0 (gn ≠ g) := ⟨by have h := Kd.R_lt HO4.out g (by simp [Value.ownBlock]); omega⟩
      have hsx := HS.out.2 x (List.mem_of_getElem? HX.out)
      have hsy := HS.out.2 y (List.mem_of_getElem? HY.out)
      have hsx2 := hsx.2
      have hsy1 := hsy.1
      have hsy2 := hsy.2
      clear hw5 hgn hB45 HO4 HN4 HB4 HS4 hsx hsy HC1
      obtain ⟨A1', c1', A2', c2', q0, q1, q2, f0, f1, f2, r1, r2, hc1', hc2'⟩ := HO5.out.cells HX.out
      have HCR := Aside0.mk (Kd.R_reads' r1).2.2
      clear r1 r2
      go_wp2_with fail
      refine (without_any A1' c1' x.f1 k0 w5 HCR.out hc1' hsx1).mono ?_
      rintro e w6 ⟨v, rfl, hF, hB⟩
      obtain ⟨U, cu, rfl⟩ := Kd.R_slice hF
      have HO6 := Aside0.mk (HO5.out.below hB)
      have HB6 := Aside0.mk (below_step HB5.out hB)
      have HN6 := Aside0.mk (blk_below HN5.out hB)
      have HX1 : Aside0 ((l.set a ⟨x.f0, withoutL x.f1 k0, x.f2⟩)[a]? = some ⟨x.f0, withoutL x.f1 k0, x.f2⟩) := ⟨by rw [set_at HX.out, if_pos rfl]⟩
      have HO7 := Aside0.mk (HO6.out.put1 HX.out HS5.out hF)
      have HS6 : Aside0 (w1.heap.size ≤ w6.heap.size) := ⟨Nat.le_trans HS5.out hB.size⟩
      clear hF hB q0 q1 q2 f0 f1 f2 HCR hc1' hc2'
      obtain ⟨A1', c1', A2', c2', q0, q1, q2, f0, f1, f2, r1, r2, hc1', hc2'⟩ := HO6.out.cells HX.out
      clear r1 r2
      go_upto_region 14 with fail
      obtain ⟨w7, hw7⟩ : ∃ w7, w7 = w6.setCell ⟨g, a * 3 + 1, none⟩ (.slice U (withoutL x.f1 k0).length cu) := ⟨_, rfl⟩
      rw [← hw7] at HO7 ⊢
      have HB7 : Aside0 (Below w.heap.size w w7) := ⟨by rw [hw7]; exact below_set HB6.out HBG.out⟩
      have HN7 : Aside0 (w7.heap[gn]? = some (.cells #[.int .i64 k0, .int .i64 (b : Int), .int .i64 (k2 + 1)] 31 (0, 0))) := ⟨by rw [hw7]; exact blk_far HN6.out HNG.out _⟩
      have HS7 : Aside0 (w1.heap.size ≤ w7.heap.size) := ⟨by rw [hw7]; exact Nat.le_trans HS6.out (size_set _ _ _)⟩
      clear hw7 q0 q1 q2 f0 f1 f2 hc1' hc2'
      obtain ⟨A1', c1', A2', c2', q0, q1, q2, f0, f1, f2, r1, r2, hc1', hc2'⟩ := HO7.out.cells HX1.out
      have HCR := Aside0.mk (Kd.R_reads' r2).2.2
      clear r1 r2
      obtain ⟨n0, n1, n2, _, _, _⟩ := blk3 HN7.out
      go_cut [99] (fun u99 wx => Aside0 (Own wx w1.heap.size g cap (l.set a ⟨x.f0, withoutL x.f1 k0, putL x.f2 ⟨k0, b, k2 + 1⟩⟩)) ∧ Aside0 (Below w.heap.size w wx) ∧ Aside0 (w1.heap.size ≤ wx.heap.size) ∧ Aside0 (wx.heap[gn]? = some (.cells #[.int .i64 k0, .int .i64 (b : Int), .int .i64 (k2 + 1)] 31 (0, 0))))
      case first =>
        go_region_with (first | (go_at_call 68; refine (put_any A2' c2' x.f2 ⟨k0, b, k2 + 1⟩ _ (Kd.C_below HCR.out (below_drew (Below.refl _ _))) hc2' hsx2).mono ?_; rintro e w8 ⟨v, rfl, hF, hB⟩; obtain ⟨U2, cu2, rfl⟩ := Kd.R_slice hF; have HO8 := Aside0.mk ((HO7.out.below (below_drew (Below.refl _ _))).below hB); have HB8 := Aside0.mk (below_step (below_drew HB7.out) hB); have HN8 := Aside0.mk (blk_below (blk_drew HN7.out) hB); have HS8 : Aside0 (w1.heap.size ≤ w8.heap.size) := ⟨Nat.le_trans HS7.out hB.size⟩; have HO9 := Aside0.mk (HO8.out.put2 HX1.out HS7.out hF); clear hF hB; obtain ⟨A1'', c1'', A2'', c2'', _, _, q2', _, _, f2', _, _, _, _⟩ := HO8.out.cells HX1.out))
        all_goals
          go_wp2_with fail
          go_meet
          case rel => exact ⟨⟨by have h := HO9.out; rw [List.set_set] at h; exact h⟩, ⟨below_set HB8.out HBG.out⟩, ⟨Nat.le_trans HS8.out (size_set _ _ _)⟩, ⟨blk_far HN8.out HNG.out _⟩⟩
      case rest =>
      obtain ⟨HO9, HB9, HS9, HN9⟩ := hcut
      have HY2 : Aside0 ((l.set a ⟨x.f0, withoutL x.f1 k0, putL x.f2 ⟨k0, b, k2 + 1⟩⟩)[b]? = some y) := ⟨by rw [set_at HX.out, if_neg (fun e => HAB.out e.symm)]; exact HY.out⟩
      clear n0 n1 n2 q0 q1 q2 f0 f1 f2 hc1' hc2' HCR HX1 HO7 HB7 HN7 HS7
      obtain ⟨A1', c1', A2', c2', q0, q1, q2, f0, f1, f2, r1, r2, hc1', hc2'⟩ := HO9.out.cells HY2.out
      have HCR := Aside0.mk (Kd.R_reads' r2).2.2
      clear r1 r2
      go_wp2_with fail
      refine (without_any A2' c2' y.f2 k0 _ HCR.out hc2' hsy2).mono ?_
      rintro e wa ⟨v, rfl, hF, hB⟩
      obtain ⟨U3, cu3, rfl⟩ := Kd.R_slice hF
      have HOa := Aside0.mk (HO9.out.below hB)
      have HBa := Aside0.mk (below_step HB9.out hB)
      have HNa := Aside0.mk (blk_below HN9.out hB)
      have HY3 : Aside0 (((l.set a ⟨x.f0, withoutL x.f1 k0, putL x.f2 ⟨k0, b, k2 + 1⟩⟩).set b ⟨y.f0, y.f1, withoutL y.f2 k0⟩)[b]? = some ⟨y.f0, y.f1, withoutL y.f2 k0⟩) := ⟨by rw [set_at HY2.out, if_pos rfl]⟩
      have HOb := Aside0.mk (HOa.out.put2 HY2.out HS9.out hF)
      have HSa : Aside0 (w1.heap.size ≤ wa.heap.size) := ⟨Nat.le_trans HS9.out hB.size⟩
      clear hF hB q0 q1 q2 f0 f1 f2 HCR hc1' hc2'
      obtain ⟨A1', c1', A2', c2', q0, q1, q2, f0, f1, f2, r1, r2, hc1', hc2'⟩ := HOa.out.cells HY2.out
      clear r1 r2
      go_upto_region 16 with fail
      obtain ⟨wb, hwb⟩ : ∃ wb, wb = wa.setCell ⟨g, b * 3 + 2, none⟩ (.slice U3 (withoutL y.f2 k0).length cu3) := ⟨_, rfl⟩
      rw [← hwb] at HOb ⊢
      have HBb : Aside0 (Below w.heap.size w wb) := ⟨by rw [hwb]; exact below_set HBa.out HBG.out⟩
      have HNb : Aside0 (wb.heap[gn]? = some (.cells #[.int .i64 k0, .int .i64 (b : Int), .int .i64 (k2 + 1)] 31 (0, 0))) := ⟨by rw [hwb]; exact blk_far HNa.out HNG.out _⟩
      have HSb : Aside0 (w1.heap.size ≤ wb.heap.size) := ⟨by rw [hwb]; exact Nat.le_trans HSa.out (size_set _ _ _)⟩
      clear hwb q0 q1 q2 f0 f1 f2 hc1' hc2' HOa HBa HNa HSa
      obtain ⟨A1', c1', A2', c2', q0, q1, q2, f0, f1, f2, r1, r2, hc1', hc2'⟩ := HOb.out.cells HY3.out
      have HCR := Aside0.mk (Kd.R_reads' r1).2.2
      clear r1 r2
      obtain ⟨n0, n1, n2, _, _, _⟩ := blk3 HNb.out
      go_cut [121] (fun u121 wx => Aside0 (Own wx w1.heap.size g cap (moveL l a b k0 ⟨k0, b, k2 + 1⟩ x y)) ∧ Aside0 (Below w.heap.size w wx))
      case first =>
        go_region_with (first | (go_at_call 68; refine (put_any A1' c1' y.f1 ⟨k0, b, k2 + 1⟩ _ (Kd.C_below HCR.out (below_drew (Below.refl _ _))) hc1' hsy1).mono ?_; rintro e w8 ⟨v, rfl, hF, hB⟩; obtain ⟨U2, cu2, rfl⟩ := Kd.R_slice hF; have HO8 := Aside0.mk ((HOb.out.below (below_drew (Below.refl _ _))).below hB); have HB8 := Aside0.mk (below_step (below_drew HBb.out) hB); have HOf := Aside0.mk (HO8.out.put1 HY3.out HSb.out hF); clear hF hB; obtain ⟨A1'', c1'', A2'', c2'', _, q1', _, _, f1', _, _, _, _, _⟩ := HO8.out.cells HY3.out))
        all_goals
          go_wp2_with fail
          go_meet
          case rel => exact ⟨⟨by have h := HOf.out; rw [List.set_set] at h; exact h⟩, ⟨below_set HB8.out HBG.out⟩⟩
      case rest =>
      obtain ⟨HOF, HBF⟩ := hcut
      have HL : Aside0 ((moveL l a b k0 ⟨k0, b, k2 + 1⟩ x y).length = l.length) := ⟨by unfold moveL; rw [List.length_set, List.length_set]⟩
      obtain ⟨l2, hl2⟩ : ∃ l2, l2 = moveL l a b k0 ⟨k0, b, k2 + 1⟩ x y := ⟨_, rfl⟩
      rw [← hl2] at HL HV2 HOF
      have hC4 := HOF.out.C
      rw [HL.out] at hC4
      have HC4 := Aside0.mk hC4
      clear hl2 hC4 n0 n1 n2 q0 q1 q2 f0 f1 f2 hc1' hc2' HCR
      go_wp2_with fail
      refine (posts_any (some ⟨g, 0, none⟩) l.length cap l2 _ HL.out.symm HC4.out hcap (by rw [HL.out]; exact hl6)).mono ?_
      rintro e w5 ⟨A5, c5, rfl, h5, hC5, hB⟩
      have HC5 := Aside0.mk hC5
      have HB5 := Aside0.mk (below_step HBF.out hB)
      clear hC5 hB
      go_wp2_with fail
      go_returns
      exact ⟨A5, c5, by rw [HV2.out]; rfl, by rw [HV2.out]; exact h5, by rw [HV2.out]; exact HC5.out, HB5.out⟩
end Go.Proofs.Ytjnceoohlcchnaa.Print

/-! A further object. -/
namespace Go.Proofs.Ytjnceoohlcchnaa.Print
open Go Go.RowKit Go.Deep Go.Proofs.YtjnceoohlcchnaaW.PrintWords Go.Proofs.YtjnceoohlcchnaaW.PrintLast Go.Proofs.YtjnceoohlcchnaaW.PrintMore

def knows (oid : Int) (x : S36) : Bool := atB x.f1 oid || atB x.f2 oid
set_option maxRecDepth 100000 in
theorem knows_any (oid : Int) (x : S36) (A1 : Option Addr) (c1 : Nat) (A2 : Option Addr) (c2 : Nat) (go : Nat) (w : World) (ho : w.cell? ⟨go, 0, none⟩ = some (.int .i64 oid))
    (h1 : Kd.C k31 w A1 x.f1.length x.f1) (hc1 : x.f1.length ≤ c1) (hl1 : x.f1.length ≤ 1000000000000) (h2 : Kd.C k31 w A2 x.f2.length x.f2) (hc2 : x.f2.length ≤ c2) (hl2 : x.f2.length ≤ 1000000000000) :
    Calls Try.prog 71 #[.agg #[.bool x.f0, .slice A1 x.f1.length c1, .slice A2 x.f2.length c2], .pointer (some ⟨go, 0, none⟩)] w fun e w' => e = .returned (.bool (knows oid x)) ∧ Below w.heap.size w w' := by
  have H1 := Aside0.mk h1
  have H2 := Aside0.mk h2
  have hgo := World.block_lt_of_cell? w _ ho
  clear h1 h2
  have hu := Try.underlying81
  go_enter Try.func71, Try.ntmps71
  go_upto_region 1 with fail
  obtain ⟨gb, hgb⟩ : ∃ g, g = w.heap.size := ⟨_, rfl⟩
  obtain ⟨w1, hw1⟩ : ∃ w1, w1 = w.alloc (Obj.cells #[Value.bool x.f0, Value.slice A1 x.f1.length c1, Value.slice A2 x.f2.length c2] 81) := ⟨_, rfl⟩
  rw [← hw1, ← hgb]
  have HB1 : Aside0 (Below w.heap.size w w1) := ⟨by rw [hw1]; exact below_alloc (Below.refl _ _) _⟩
  have HN1 : Aside0 (w1.heap[gb]? = some (.cells #[.bool x.f0, .slice A1 x.f1.length c1, .slice A2 x.f2.length c2] 81 (0, 0))) := ⟨by rw [hw1, hgb]; exact heap_alloc_new _ _⟩
  have ho1 : w1.cell? ⟨go, 0, none⟩ = some (.int .i64 oid) := (HB1.out.cell (p := ⟨go, 0, none⟩) hgo).trans ho
  clear hw1 hgb
  obtain ⟨n0, n1, n2, _, _, _⟩ := blk3 HN1.out
  go_wp2_with fail
  refine (has_any x.f0 A1 x.f1.length c1 A2 x.f2.length c2 x.f1 oid w1 rfl (Kd.C_below H1.out HB1.out) hc1 hl1).mono ?_
  rintro e w2 ⟨rfl, hB⟩
  have HB2 := Aside0.mk (below_step HB1.out hB)
  obtain ⟨y, hy⟩ : ∃ y, y = lookL x.f1 oid := ⟨_, rfl⟩
  obtain ⟨b, hb⟩ : ∃ b, b = atB x.f1 oid := ⟨_, rfl⟩
  rw [← hy, ← hb]
  unfold hintV
  obtain ⟨w3, hw3⟩ : ∃ w3, w3 = w2.alloc (Obj.cells #[Value.int IntKind.i64 y.f0, Value.int IntKind.i64 y.f1, Value.int IntKind.i64 y.f2] 31) := ⟨_, rfl⟩
  have hB3 : Below w1.heap.size w1 w3 := by rw [hw3]; exact below_alloc hB _
  have HB3 := Aside0.mk (below_step HB1.out hB3)
  have HN3 := Aside0.mk (blk_below HN1.out hB3)
  have ho3 : w3.cell? ⟨go, 0, none⟩ = some (.int .i64 oid) := (HB3.out.cell (p := ⟨go, 0, none⟩) hgo).trans ho
  have HKB := Aside0.mk hb
  clear hB hB3 hy hb n0 n1 n2 ho1 ho
  go_upto_region 2 with fail
  rw [← hw3]
  clear hw3
  obtain ⟨n0, n1, n2, _, _, _⟩ := blk3 HN3.out
  go_wp2_with fail
  refine (hint_any x.f0 A1 x.f1.length c1 A2 x.f2.length c2 x.f2 oid w3 rfl (Kd.C_below H2.out HB3.out) hc2 hl2).mono ?_
  rintro e w4 ⟨rfl, hB⟩
  have HB4 := Aside0.mk (below_step HB3.out hB)
  have HK : Aside0 (knows oid x = (b || atB x.f2 oid)) := ⟨by unfold knows; rw [HKB.out]⟩
  obtain ⟨z, hz⟩ : ∃ z, z = lookL x.f2 oid := ⟨_, rfl⟩
  obtain ⟨b2, hb2⟩ : ∃ b, b = atB x.f2 oid := ⟨_, rfl⟩
  rw [← hb2] at HK
  rw [← hz, ← hb2]
  unfold hintV
  clear hB n0 n1 n2 ho3 hz hb2
  cases b <;> cases b2
  all_goals
    go_wp2_with fail
    go_returns
    exact ⟨by rw [HK.out]; rfl, below_alloc HB4.out _⟩
def KnRel (w : World) (q : S36 → Bool) (l : List S36) (u8 : Value) (wr : World) : Prop :=
  ∃ i : Nat, u8 = .int .i64 i ∧ i ≤ l.length ∧ Aside0 ((l.take i).any q = false) ∧ Aside0 (Below w.heap.size w wr)
set_option maxRecDepth 100000 in
theorem index_posts (A : Option Addr) (c : Nat) (l : List S36) (oid : Int) (go : Nat) (w : World) (ho : w.cell? ⟨go, 0, none⟩ = some (.int .i64 oid)) (hr : Kd.C k36 w A l.length l) (hc : l.length ≤ c) (hl : Short l) :
    Calls Try.prog 100 #[.slice A l.length c, .func (.func 71) #[] #[.pointer (some ⟨go, 0, none⟩)]] w fun e w' => ∃ r : Int, e = .returned (.int .i64 r) ∧ decide (0 ≤ r) = l.any (knows oid) ∧ Below w.heap.size w w' := by
  have HR := Aside0.mk hr
  have HG := Aside0.mk ho
  have HS := Aside0.mk hl
  have hl6 := hl.1
  have eg : ∀ args w, (callFunc 71 args).run Try.prog w = .ok (.enter 71 args) w := fun _ _ => rfl
  have hu := Try.underlying81
  clear hr ho hl
  go_enter Try.func100, Try.ntmps100
  go_wp2_with fail
  go_loopw [8] (fun u8 wr => KnRel w (knows oid) l u8 wr) (fun u8 _ => l.length - (intOf u8).toNat)
  case atStart => exact ⟨0, rfl, Nat.zero_le _, ⟨rfl⟩, ⟨Below.refl _ _⟩⟩
  case round =>
    obtain ⟨i, rfl, hi, HE, HB⟩ := hrel
    by_cases hlt : i < l.length
    rotate_left
    · have hd : decide (i < l.length) = false := decide_eq_false hlt
      have HE2 : Aside0 (l.any (knows oid) = false) := ⟨by have h := HE.out; rwa [List.take_of_length_le (by omega)] at h⟩
      go_wp2_with fail
      go_returns
      exact ⟨-1, rfl, by rw [HE2.out]; rfl, HB.out⟩
    have hd : decide (i < l.length) = true := decide_eq_true hlt
    obtain ⟨ad, x, A1, c1, A2, c2, rfl, hx, p0, p1, p2, hc1, hC1, hc2, hC2⟩ := post_at (Kd.C_below HR.out HB.out) i hlt
    have hgr := (HB.out.cell (World.block_lt_of_cell? w _ HG.out)).trans HG.out
    have HC1 := Aside0.mk hC1
    have HC2 := Aside0.mk hC2
    have hs := HS.out.2 x (List.mem_of_getElem? hx)
    have hs1 := hs.1
    have hs2 := hs.2
    have HX := Aside0.mk hx
    clear hx hC1 hC2 hs
    go_wp2_with fail
    refine (knows_any oid x A1 c1 A2 c2 go wr hgr HC1.out hc1 hs1 HC2.out hc2 hs2).mono ?_
    rintro e w2 ⟨rfl, hB⟩
    have HB2 : Aside0 (Below w.heap.size w w2) := ⟨HB.out.trans (hB.mono HB.out.size)⟩
    clear hB p0 p1 p2 hgr
    by_cases hb : knows oid x = true
    · rw [hb]
      have HE2 : Aside0 (l.any (knows oid) = true) := ⟨List.any_eq_true.2 ⟨x, List.mem_of_getElem? HX.out, hb⟩⟩
      clear hb
      go_wp2_with fail
      go_returns
      exact ⟨i, rfl, by rw [HE2.out]; simp, HB2.out⟩
    · have hb2 : knows oid x = false := by simpa using hb
      rw [hb2]
      have HE2 : Aside0 ((l.take (i + 1)).any (knows oid) = false) := ⟨by rw [List.take_add_one, HX.out, List.any_append, HE.out]; simp [hb2]⟩
      clear hb hb2
      go_wp2_with fail
      go_roundw
      case measure => simp [intOf]; omega
      case rel => exact ⟨i + 1, by go_num, by omega, HE2, HB2⟩
theorem contains_posts (A : Option Addr) (c : Nat) (l : List S36) (oid : Int) (go : Nat) (w : World) (ho : w.cell? ⟨go, 0, none⟩ = some (.int .i64 oid)) (hr : Kd.C k36 w A l.length l) (hc : l.length ≤ c) (hl : Short l) :
    Calls Try.prog 70 #[.slice A l.length c, .func (.func 71) #[] #[.pointer (some ⟨go, 0, none⟩)]] w fun e w' => e = .returned (.bool (l.any (knows oid))) ∧ Below w.heap.size w w' := by
  have HR := Aside0.mk hr
  have HG := Aside0.mk ho
  have HS := Aside0.mk hl
  clear hr ho hl
  go_enter Try.func70, Try.ntmps70
  go_wp2_with fail
  refine (index_posts A c l oid go w HG.out HR.out hc HS.out).mono ?_
  rintro e w' ⟨r, rfl, hq, hB⟩
  have HQ := Aside0.mk hq
  clear hq
  go_wp2_with fail
  go_returns
  exact ⟨by rw [← HQ.out]; rfl, hB⟩
set_option maxRecDepth 100000 in
set_option maxHeartbeats 8000000 in
theorem Make_any (A : Option Addr) (n c : Nat) (l : List S36) (oid place : Int) (w : World) (hn : n = l.length) (hr : Kd.C k36 w A l.length l) (hc : n ≤ c) (hl : Short l) :
    Calls Try.prog 24 #[.slice A n c, .int .i64 oid, .int .i64 place] w fun e w' => ∃ A2 c2, e = .returned (.tuple #[.slice A2 (makeF l oid place).1.length c2, .int .i64 (makeF l oid place).2]) ∧ (makeF l oid place).1.length ≤ c2 ∧ Kd.C k36 w' A2 (makeF l oid place).1.length (makeF l oid place).1 ∧ Below w.heap.size w w' := by
  subst hn
  have HR := Aside0.mk hr
  have HS := Aside0.mk hl
  have hl6 := hl.1
  clear hr hl
  have hmf : ∀ (fn : Fn) (first cap : Array Value) (w : World), (Instr.makeFunc fn first cap).run Try.prog w = .ok (.func fn first cap) w := fun _ _ _ _ => rfl
  go_enter Try.func24, Try.ntmps24
  go_wp2_with fail
  obtain ⟨go, hgo⟩ : ∃ g, g = w.heap.size := ⟨_, rfl⟩
  obtain ⟨g0, hg0⟩ : ∃ g, g = w.heap.size + 1 := ⟨_, rfl⟩
  obtain ⟨w1, hw1⟩ : ∃ w1, w1 = (w.alloc (Obj.cells #[Value.int IntKind.i64 oid] 3)).alloc (Obj.cells #[Value.int IntKind.i64 place] 3) := ⟨_, rfl⟩
  rw [← hw1, ← hg0, ← hgo]
  have HB1 : Aside0 (Below w.heap.size w w1) := ⟨by rw [hw1]; exact below_alloc (below_alloc (Below.refl _ _) _) _⟩
  have HQ1 : Aside0 (w1.heap[go]? = some (.cells #[.int .i64 oid] 3 (0, 0))) := ⟨by rw [hw1, hgo]; exact blk_alloc (heap_alloc_new _ _) _⟩
  have HP1 : Aside0 (Kd.C (Kd.int .i64) w1 (some ⟨g0, 0, none⟩) 1 [place]) := ⟨one_ints w1 place (by
    rw [hw1, hg0]
    have h := heap_alloc_new (w.alloc (Obj.cells #[Value.int IntKind.i64 oid] 3)) (Obj.cells #[Value.int IntKind.i64 place] 3)
    simpa using h)⟩
  have HGO : Aside0 (go < w1.heap.size) := ⟨by rw [hw1, hgo]; simp; omega⟩
  clear hw1 hg0 hgo
  obtain ⟨ok, hok⟩ : ∃ ok, ok = decide (1 ≤ oid) := ⟨_, rfl⟩
  rw [← hok]
  refine (given_any A l.length c l ok (some ⟨g0, 0, none⟩) 1 1 [place] w1 rfl (Kd.C_below HR.out HB1.out) hc HS.out rfl HP1.out (Nat.le_refl _) (by simp)).mono ?_
  rintro e w2 ⟨v, rfl, hB, hv0, hv1⟩
  have HB2 : Aside0 (Below w.heap.size w w2) := ⟨HB1.out.trans (hB.mono HB1.out.size)⟩
  have HQ2 := Aside0.mk (blk_below HQ1.out hB)
  by_cases hgc : givenC l ok [place] = 0
  rotate_left
  · have HV : Aside0 (makeF l oid place = ([], givenC l ok [place])) := ⟨by unfold makeF; rw [← hok, if_neg hgc]⟩
    have hv := hv1 hgc
    subst hv
    obtain ⟨gc, hgc2⟩ : ∃ gc, gc = givenC l ok [place] := ⟨_, rfl⟩
    rw [← hgc2] at hgc HV ⊢
    have dg : (gc != 0) = true := by rw [bne_iff_ne]; exact hgc
    clear hgc hgc2 hok hv0 hv1 hB
    go_wp2_with fail
    go_returns
    exact ⟨none, 0, by rw [HV.out]; rfl, by rw [HV.out]; exact Nat.le_refl _, by rw [HV.out]; exact Kd.C_nil _ _, HB2.out⟩
  obtain ⟨b, hpb, hbl, hy⟩ := given_post hgc
  obtain ⟨y, hye⟩ : ∃ y, y = postA l place := ⟨_, rfl⟩
  have HV : Aside0 (makeF l oid place = (if (l.any (knows oid) || !y.f0) = true then ([], 1) else if 4000 ≤ y.f1.length then ([], 2) else (l.set b ⟨y.f0, putL y.f1 ⟨oid, place, 0⟩, y.f2⟩, 0))) := ⟨by unfold makeF; rw [← hok, if_pos hgc, hye, hpb]; rfl⟩
  rw [← hye] at hy
  subst hpb
  obtain ⟨g, cap, rfl, hO, hcap, hbg, hg2⟩ := own_of (hv0 hgc) (by omega)
  rw [hgc]
  have HO := Aside0.mk hO
  have HY := Aside0.mk hy
  have HBG : Aside0 (w.heap.size ≤ g) := ⟨Nat.le_trans HB1.out.size hbg⟩
  have HBG1 : Aside0 (w1.heap.size ≤ g ∧ w1.heap.size ≤ w2.heap.size) := ⟨hbg, by omega⟩
  have HNG : Aside0 (go ≠ g) := ⟨by have h := HGO.out; omega⟩
  have hsy := (HS.out.2 y (List.mem_of_getElem? HY.out)).1
  have db : decide (b < l.length) = true := decide_eq_true hbl
  clear hgc hok hv0 hv1 hO hy hB hg2 hye hbg
  have ho2 : w2.cell? ⟨go, 0, none⟩ = some (.int .i64 oid) := by have h := blk_cell HQ2.out 0; simpa using h
  go_wp2_with fail
  refine (contains_posts (some ⟨g, 0, none⟩) cap l oid go w2 ho2 HO.out.C hcap HS.out).mono ?_
  rintro e w3 ⟨rfl, hB⟩
  have HB3 := Aside0.mk (below_step HB2.out hB)
  have HO3 := Aside0.mk (HO.out.below hB)
  have HQ3 := Aside0.mk (blk_below HQ2.out hB)
  have HS3 : Aside0 (w1.heap.size ≤ w3.heap.size) := ⟨Nat.le_trans HBG1.out.2 hB.size⟩
  clear hB ho2
  have ho3 : w3.cell? ⟨go, 0, none⟩ = some (.int .i64 oid) := by have h := blk_cell HQ3.out 0; simpa using h
  obtain ⟨A1', c1', A2', c2', q0, q1, q2, f0, f1, f2, r1, r2, hc1', hc2'⟩ := HO3.out.cells HY.out
  have HCR := Aside0.mk (Kd.R_reads' r1).2.2
  clear r1 r2
  obtain ⟨kn, hkn⟩ : ∃ k, k = l.any (knows oid) := ⟨_, rfl⟩
  obtain ⟨u, hu⟩ : ∃ u, u = y.f0 := ⟨_, rfl⟩
  rw [← hkn, ← hu] at HV
  rw [← hkn]
  rw [← hu] at q0
  have HU := Aside0.mk hu
  clear hkn hu
  cases kn with
  | true =>
    have HV2 : Aside0 (makeF l oid b = ([], 1)) := ⟨by rw [HV.out]; rfl⟩
    clear HV
    go_wp2_with fail
    go_returns
    exact ⟨none, 0, by rw [HV2.out]; rfl, by rw [HV2.out]; exact Nat.le_refl _, by rw [HV2.out]; exact Kd.C_nil _ _, HB3.out⟩
  | false =>
    cases u with
    | false =>
      have HV2 : Aside0 (makeF l oid b = ([], 1)) := ⟨by rw [HV.out]; rfl⟩
      clear HV
      go_wp2_with fail
      go_returns
      exact ⟨none, 0, by rw [HV2.out]; rfl, by rw [HV2.out]; exact Nat.le_refl _, by rw [HV2.out]; exact Kd.C_nil _ _, HB3.out⟩
    | true =>
      by_cases g1 : 4000 ≤ y.f1.length
      · have HV2 : Aside0 (makeF l oid b = ([], 2)) := ⟨by rw [HV.out, if_neg (by simp), if_pos g1]⟩
        have dg : decide ((4000 : Int) ≤ (y.f1.length : Int)) = true := decide_eq_true (by omega)
        clear HV
        go_wp2_with fail
        go_returns
        exact ⟨none, 0, by rw [HV2.out]; rfl, by rw [HV2.out]; exact Nat.le_refl _, by rw [HV2.out]; exact Kd.C_nil _ _, HB3.out⟩
      have dg : decide ((4000 : Int) ≤ (y.f1.length : Int)) = false := decide_eq_false (by omega)
      have HV2 : Aside0 (makeF l oid b = (l.set b ⟨y.f0, putL y.f1 ⟨oid, b, 0⟩, y.f2⟩, 0)) := ⟨by rw [HV.out, if_neg (by simp), if_neg g1, HU.out]⟩
      clear HV g1
      go_upto_region 6 with fail
      go_region_with (first | (go_at_call 68; refine (put_any A1' c1' y.f1 ⟨oid, b, 0⟩ _ (Kd.C_below HCR.out (below_drew (Below.refl _ _))) hc1' hsy).mono ?_; rintro e w8 ⟨v, rfl, hF, hB⟩; obtain ⟨U2, cu2, rfl⟩ := Kd.R_slice hF; have HO8 := Aside0.mk ((HO3.out.below (below_drew (Below.refl _ _))).below hB); have HB8 := Aside0.mk (below_step (below_drew HB3.out) hB); have HOf := Aside0.mk (HO8.out.put1 HY.out HS3.out hF); clear hF hB; obtain ⟨A1'', c1'', A2'', c2'', _, q1', _, _, f1', _, _, _, _, _⟩ := HO8.out.cells HY.out))
      all_goals
        have HBF : Aside0 (Below w.heap.size w (w8.setCell ⟨g, b * 3 + 1, none⟩ (.slice U2 (putL y.f1 ⟨oid, b, 0⟩).length cu2))) := ⟨below_set HB8.out HBG.out⟩
        obtain ⟨l2, hl2⟩ : ∃ l2, l2 = l.set b ⟨y.f0, putL y.f1 ⟨oid, b, 0⟩, y.f2⟩ := ⟨_, rfl⟩
        have HL : Aside0 (l2.length = l.length) := ⟨by rw [hl2, List.length_set]⟩
        rw [← hl2] at HV2 HOf
        have hC4 := HOf.out.C
        rw [HL.out] at hC4
        have HC4 := Aside0.mk hC4
        clear hl2 hC4 q0 q1 q2 f0 f1 f2 hc1' hc2' HCR ho3
        go_wp2_with fail
        refine (posts_any (some ⟨g, 0, none⟩) l.length cap l2 _ HL.out.symm HC4.out hcap (by rw [HL.out]; exact hl6)).mono ?_
        rintro e w5 ⟨A5, c5, rfl, h5, hC5, hB⟩
        have HC5 := Aside0.mk hC5
        have HB5 := Aside0.mk (below_step HBF.out hB)
        clear hC5 hB
        go_wp2_with fail
        go_returns
        exact ⟨A5, c5, by rw [HV2.out]; rfl, by rw [HV2.out]; exact h5, by rw [HV2.out]; exact HC5.out, HB5.out⟩
end Go.Proofs.Ytjnceoohlcchnaa.Print
