/- Telling and new maps: contracts, whatever the input. -/
import Derived.Test.YtjnceoohlcchnaaRG
import Derived.Test.YtjnceoohlcchnaaRB
import Derived.Test.YtjnceoohlcchnaaRA
set_option linter.unusedVariables false
set_option linter.unusedSimpArgs false
/-! A copy of a map's places; rows of one. -/
namespace Go.Proofs.Ytjnceoohlcchnaa.Print
open Go Go.RowKit Go.Deep Go.Proofs.YtjnceoohlcchnaaW.PrintWords Go.Proofs.YtjnceoohlcchnaaW.PrintLast Go.Proofs.YtjnceoohlcchnaaW.PrintMore

set_option maxRecDepth 100000 in
theorem clone_posts (base g cap : Nat) (l : List S36) (w : World) (hO : Own w base g cap l) (hb : base ≤ w.heap.size) (hl : l.length ≤ 1000000) :
    Calls Try.prog 78 #[.slice (some ⟨g, 0, none⟩) l.length cap] w fun e w' => ∃ v, e = .returned v ∧ Kd.N k36 81 w' w.heap.size (fun k => base ≤ k) v l ∧ Below w.heap.size w w' := by
  have q22 : ∀ (w : World) (a : Option Addr) (n c n' c' : Nat), (binOp .eql 74 (.slice a n c) (.slice none n' c')).run Try.prog w = .ok (.bool a.isNone) w := fun w a n c n' c' => Lib.run_eql_slice_nil w _ _ a n c n' c' Try.underlying74
  have HO := Aside0.mk hO
  clear hO
  go_enter Try.func78, Try.ntmps78
  go_wp2_with (at_builtin; refine Kd.N_append_rows k36 (w0 := w) w.heap.size rfl (.tmp 5) (.tmp 6) 74 81 (.agg #[.bool false, .slice none 0 0, .slice none 0 0]) 56 rfl Try.underlying74 info_post rfl (by decide) (by decide) (.slice (some ⟨w.heap.size, 0, none⟩) 0 0) [] l (some ⟨g, 0, none⟩) l.length cap (fun k => base ≤ k) (fun k => base ≤ k ∧ k < w.heap.size) rfl rfl ?aO ?aR ?aK ?aF (below_alloc (Below.refl _ _) _) (by simp) (by simp; omega) ?_)
  case aO => exact Kd.N_mono (Kd.R_N (Kd.R_bound (R_empty k36 81 w))) (fun k hk => Nat.le_trans hb hk.2.1)
  case aR => exact Kd.R_F (Kd.R_below (Kd.R_mono (Kd.R_bound HO.out) (fun k hk => ⟨hk.2.1, hk.2.2.1⟩)) (below_alloc (Below.refl _ _) _))
  case aK => exact fun k hk => ⟨hk.1, fun e => by simp [Value.ownBlock] at e; omega⟩
  case aF => exact fun k hk => by simp at hk; omega
  intro v1 w1 hN hB _ _
  have H := Aside0.mk hN
  have HB := Aside0.mk hB
  clear hN hB
  go_wp2
  go_ret
  exact ⟨_, rfl, H.out, HB.out⟩
/-- a row of one hint -/
theorem one_hint (W : World) (h : S31) : Kd.R k31 31 (W.alloc (.cells #[.int .i64 h.f0, .int .i64 h.f1, .int .i64 h.f2] 31)) W.heap.size (fun k => k = W.heap.size) (.slice (some ⟨W.heap.size, 0, none⟩) 1 1) [h] := by
  have h2 := World.ownsRow_lit (base := W.heap.size) (e := 31) (size := 3) W #[.int .i64 h.f0, .int .i64 h.f1, .int .i64 h.f2] 1 (Nat.le_refl _) (by simp [maxLen]) (by simp)
  refine ⟨fun k hk => by simp [Value.ownBlock] at hk; exact hk.symm, flatH [h], (show World.ownsRow _ _ _ 3 _ _ _ from by simpa [flatH, hintC] using h2), flat_reps (fun x => k31_mkM _ _ _ x) [h]⟩
/-- a row of one place that says one hint -/
theorem one_post {W : World} {base gh c : Nat} {h : S31} (hb : base ≤ W.heap.size) (hR : Kd.R k31 31 W base (fun k => k = gh) (.slice (some ⟨gh, 0, none⟩) 1 c) [h]) (hlt : gh < W.heap.size) :
    Kd.R k36 81 (W.alloc (.cells #[.bool true, .slice none 0 0, .slice (some ⟨gh, 0, none⟩) 1 c] 81)) base (fun k => k = gh ∨ k = W.heap.size) (.slice (some ⟨W.heap.size, 0, none⟩) 1 1) [⟨true, [], [h]⟩] := by
  have h2 := World.ownsRow_lit (base := base) (e := 81) (size := 3) W #[.bool true, .slice none 0 0, .slice (some ⟨gh, 0, none⟩) 1 c] 1 hb (by simp [maxLen]) (by simp)
  refine ⟨fun k hk => by simp [Value.ownBlock] at hk; exact .inr hk.symm, [.bool true, .slice none 0 0, .slice (some ⟨gh, 0, none⟩) 1 c], (show World.ownsRow _ _ _ 3 _ _ _ from by simpa using h2), rfl, fun j p hj => ?_⟩
  match j, hj with
  | 0, hj =>
  cases hj
  exact k36_mkM _ _ _ (⟨true, [], [h]⟩ : S36) (Kd.R_nil _ _ _ _ _) (Kd.R_mono (Kd.R_below hR (below_alloc (Below.refl _ _) _)) (fun k hk => ⟨.inl hk, by simp [Value.ownBlock]; omega⟩))
/-- a copy and a row of one, ready to be appended -/
def ReadyApp (w2 Wf : World) (base : Nat) (v : Value) (A : Option Addr) (l : List S36) (h : S31) : Prop :=
  ∃ (bs : Nat) (okp : Nat → Prop), Kd.N k36 81 Wf bs (fun k => base ≤ k) v l ∧ Kd.F k36 Wf okp A 1 [⟨true, [], [h]⟩] ∧ (∀ k, okp k → base ≤ k ∧ some k ≠ v.ownBlock) ∧ Below w2.heap.size w2 Wf ∧ w2.heap.size ≤ bs ∧ bs ≤ Wf.heap.size
theorem clone_a (base g cap : Nat) (l : List S36) (h : S31) (w2 : World) (hO : Own w2 base g cap l) (hb : base ≤ w2.heap.size) (hl : l.length ≤ 1000000) :
    Calls Try.prog 78 #[.slice (some ⟨g, 0, none⟩) l.length cap] w2.drew fun e w3 => ∃ A3 c3, e = .returned (.slice A3 l.length c3) ∧ Below w2.heap.size w2 w3 ∧ ReadyApp w2 ((w3.alloc (.cells #[.int .i64 h.f0, .int .i64 h.f1, .int .i64 h.f2] 31)).alloc (.cells #[.bool true, .slice none 0 0, .slice (some ⟨w3.heap.size, 0, none⟩) 1 1] 81)) base (.slice A3 l.length c3) (some ⟨w3.heap.size + 1, 0, none⟩) l h := by
  refine (clone_posts base g cap l w2.drew (hO.below (below_drew (Below.refl _ _))) hb hl).mono ?_
  rintro e w3 ⟨v, rfl, hN, hB⟩
  obtain ⟨A3, c3, rfl⟩ := Kd.N_slice hN
  have hB3 : Below w2.heap.size w2 w3 := below_step (below_drew (Below.refl _ _)) hB
  have hR2 := one_post (W := w3.alloc (.cells #[.int .i64 h.f0, .int .i64 h.f1, .int .i64 h.f2] 31)) (base := w3.heap.size) (by simp) (one_hint w3 h) (by simp)
  simp only [World.size_alloc] at hR2
  refine ⟨A3, c3, rfl, hB3, w2.heap.size, _, Kd.N_below hN (below_alloc (below_alloc (Below.refl _ _) _) _), Kd.R_F hR2, fun k hk => ?_, below_alloc (below_alloc hB3 _) _, Nat.le_refl _, ?_⟩
  · have h1 := hB3.size
    refine ⟨by rcases hk with hk | hk <;> omega, fun e => ?_⟩
    have h2 := Kd.N_lt hN k e.symm
    rcases hk with hk | hk <;> omega
  · have h1 := hB3.size
    simp only [World.size_alloc]
    omega
theorem clone_b (base g cap : Nat) (l : List S36) (h : S31) (w2 : World) (hO : Own w2 base g cap l) (hb : base ≤ w2.heap.size) (hl : l.length ≤ 1000000) :
    Calls Try.prog 78 #[.slice (some ⟨g, 0, none⟩) l.length cap] (w2.drew.alloc (.cells #[.int .i64 h.f0, .int .i64 h.f1, .int .i64 h.f2] 31)) fun e w3 => ∃ A3 c3, e = .returned (.slice A3 l.length c3) ∧ Below w2.heap.size w2 w3 ∧ ReadyApp w2 (w3.alloc (.cells #[.bool true, .slice none 0 0, .slice (some ⟨w2.heap.size, 0, none⟩) 1 1] 81)) base (.slice A3 l.length c3) (some ⟨w3.heap.size, 0, none⟩) l h := by
  have hB0 : Below w2.heap.size w2 (w2.drew.alloc (.cells #[.int .i64 h.f0, .int .i64 h.f1, .int .i64 h.f2] 31)) := below_alloc (below_drew (Below.refl _ _)) _
  refine (clone_posts base g cap l _ (hO.below hB0) (Nat.le_trans hb hB0.size) hl).mono ?_
  rintro e w3 ⟨v, rfl, hN, hB⟩
  obtain ⟨A3, c3, rfl⟩ := Kd.N_slice hN
  have hB3 : Below w2.heap.size w2 w3 := below_step hB0 hB
  have hz : (w2.drew.alloc (.cells #[.int .i64 h.f0, .int .i64 h.f1, .int .i64 h.f2] 31)).heap.size = w2.heap.size + 1 := by rw [World.size_alloc]; rfl
  have hs3 := hB.size
  rw [hz] at hs3
  have hR2 := one_post (W := w3) (base := w2.heap.size) (gh := w2.heap.size) hB3.size (Kd.R_below (one_hint w2.drew h) hB) (by omega)
  have hvb := Kd.N_base hN
  rw [hz] at hvb
  refine ⟨A3, c3, rfl, hB3, w2.heap.size + 1, _, Kd.N_below (hz ▸ hN) (below_alloc (Below.refl _ _) _), Kd.R_F hR2, fun k hk => ?_, below_alloc hB3 _, Nat.le_succ _, ?_⟩
  · refine ⟨by rcases hk with hk | hk <;> omega, fun e => ?_⟩
    have h2 := Kd.N_lt hN k e.symm
    have h3 := hvb k e.symm
    rcases hk with hk | hk <;> omega
  · simp only [World.size_alloc]
    omega
theorem clone_c (base g cap : Nat) (l : List S36) (h : S31) (w2 : World) (hO : Own w2 base g cap l) (hb : base ≤ w2.heap.size) (hl : l.length ≤ 1000000) :
    Calls Try.prog 78 #[.slice (some ⟨g, 0, none⟩) l.length cap] ((w2.drew.alloc (.cells #[.int .i64 h.f0, .int .i64 h.f1, .int .i64 h.f2] 31)).alloc (.cells #[.bool true, .slice none 0 0, .slice (some ⟨w2.heap.size, 0, none⟩) 1 1] 81)) fun e w3 => ∃ A3 c3, e = .returned (.slice A3 l.length c3) ∧ Below w2.heap.size w2 w3 ∧ ReadyApp w2 w3 base (.slice A3 l.length c3) (some ⟨w2.heap.size + 1, 0, none⟩) l h := by
  have hB0 : Below w2.heap.size w2 ((w2.drew.alloc (.cells #[.int .i64 h.f0, .int .i64 h.f1, .int .i64 h.f2] 31)).alloc (.cells #[.bool true, .slice none 0 0, .slice (some ⟨w2.heap.size, 0, none⟩) 1 1] 81)) := below_alloc (below_alloc (below_drew (Below.refl _ _)) _) _
  refine (clone_posts base g cap l _ (hO.below hB0) (Nat.le_trans hb hB0.size) hl).mono ?_
  rintro e w3 ⟨v, rfl, hN, hB⟩
  obtain ⟨A3, c3, rfl⟩ := Kd.N_slice hN
  have hB3 : Below w2.heap.size w2 w3 := below_step hB0 hB
  have hz1 : (w2.drew.alloc (.cells #[.int .i64 h.f0, .int .i64 h.f1, .int .i64 h.f2] 31)).heap.size = w2.heap.size + 1 := by rw [World.size_alloc]; rfl
  have hz : ((w2.drew.alloc (.cells #[.int .i64 h.f0, .int .i64 h.f1, .int .i64 h.f2] 31)).alloc (.cells #[.bool true, .slice none 0 0, .slice (some ⟨w2.heap.size, 0, none⟩) 1 1] 81)).heap.size = w2.heap.size + 2 := by rw [World.size_alloc, hz1]
  have hs3 := hB.size
  rw [hz] at hs3
  have hR2 := Kd.R_below (one_post (W := w2.drew.alloc (.cells #[.int .i64 h.f0, .int .i64 h.f1, .int .i64 h.f2] 31)) (base := w2.heap.size) (gh := w2.heap.size) (by rw [hz1]; omega) (one_hint w2.drew h) (by rw [hz1]; omega)) hB
  rw [hz1] at hR2
  have hvb := Kd.N_base hN
  rw [hz] at hvb
  refine ⟨A3, c3, rfl, hB3, w2.heap.size + 2, _, hz ▸ hN, Kd.R_F hR2, fun k hk => ?_, hB3, by omega, hs3⟩
  refine ⟨by rcases hk with hk | hk <;> omega, fun e => ?_⟩
  have h3 := hvb k e.symm
  rcases hk with hk | hk <;> omega
end Go.Proofs.Ytjnceoohlcchnaa.Print

/-! Tell. -/
namespace Go.Proofs.Ytjnceoohlcchnaa.Print
open Go Go.RowKit Go.Deep Go.Proofs.YtjnceoohlcchnaaW.PrintWords Go.Proofs.YtjnceoohlcchnaaW.PrintLast Go.Proofs.YtjnceoohlcchnaaW.PrintMore

def moreL (l : List S36) (h : S31) : List S36 := l ++ [⟨true, [], [h]⟩]
def tellG (l : List S36) (place : Int) (h : S31) : List S36 × Int :=
  if givenC l (decide (1 ≤ h.f0)) [place] = 0 then
    (if (!(postA l place).f0 || (!listF [h] l.length || !validF (moreL l h) (l.length + 1 : Nat))) = true then ([], 1)
    else if (tellF l place.toNat h).1 = true then ((tellF l place.toNat h).2, 0) else ([], 2))
  else ([], givenC l (decide (1 ≤ h.f0)) [place])
set_option maxRecDepth 100000 in
set_option maxHeartbeats 16000000 in
theorem Tell_any (A : Option Addr) (n c : Nat) (l : List S36) (place : Int) (h : S31) (w : World) (hn : n = l.length) (hr : Kd.C k36 w A l.length l) (hc : n ≤ c) (hl : Short l) :
    Calls Try.prog 28 #[.slice A n c, .int .i64 place, .agg #[.int .i64 h.f0, .int .i64 h.f1, .int .i64 h.f2]] w fun e w' => ∃ A2 c2, e = .returned (.tuple #[.slice A2 (tellG l place h).1.length c2, .int .i64 (tellG l place h).2]) ∧ (tellG l place h).1.length ≤ c2 ∧ Kd.C k36 w' A2 (tellG l place h).1.length (tellG l place h).1 ∧ Below w.heap.size w w' := by
  subst hn
  have HR := Aside0.mk hr
  have HS := Aside0.mk hl
  have hl6 := hl.1
  clear hr hl
  go_enter Try.func28, Try.ntmps28
  go_upto_region 1 with fail
  obtain ⟨gb, hgb⟩ : ∃ g, g = w.heap.size := ⟨_, rfl⟩
  obtain ⟨wb, hwb⟩ : ∃ w1, w1 = w.alloc (Obj.cells #[Value.int IntKind.i64 h.f0, Value.int IntKind.i64 h.f1, Value.int IntKind.i64 h.f2] 31) := ⟨_, rfl⟩
  rw [← hwb, ← hgb]
  have HBb : Aside0 (Below w.heap.size w wb) := ⟨by rw [hwb]; exact below_alloc (Below.refl _ _) _⟩
  have HQb : Aside0 (wb.heap[gb]? = some (.cells #[.int .i64 h.f0, .int .i64 h.f1, .int .i64 h.f2] 31 (0, 0))) := ⟨by rw [hwb, hgb]; exact heap_alloc_new _ _⟩
  clear hwb hgb
  obtain ⟨n0, n1, n2, _, _, _⟩ := blk3 HQb.out
  go_wp2_with fail
  obtain ⟨g0, hg0⟩ : ∃ g, g = wb.heap.size := ⟨_, rfl⟩
  obtain ⟨w1, hw1⟩ : ∃ w1, w1 = wb.alloc (Obj.cells #[Value.int IntKind.i64 place] 3) := ⟨_, rfl⟩
  rw [← hw1, ← hg0]
  have hBb1 : Below wb.heap.size wb w1 := by rw [hw1]; exact below_alloc (Below.refl _ _) _
  have HB1 := Aside0.mk (below_step HBb.out hBb1)
  have HQ1 := Aside0.mk (blk_below HQb.out hBb1)
  have HP1 : Aside0 (Kd.C (Kd.int .i64) w1 (some ⟨g0, 0, none⟩) 1 [place]) := ⟨one_ints w1 place (by rw [hw1, hg0]; exact heap_alloc_new _ _)⟩
  clear hw1 hg0 hBb1 n0 n1 n2
  obtain ⟨ok, hok⟩ : ∃ ok, ok = decide (1 ≤ h.f0) := ⟨_, rfl⟩
  rw [← hok]
  refine (given_any A l.length c l ok (some ⟨g0, 0, none⟩) 1 1 [place] w1 rfl (Kd.C_below HR.out HB1.out) hc HS.out rfl HP1.out (Nat.le_refl _) (by simp)).mono ?_
  rintro e w2 ⟨v, rfl, hB, hv0, hv1⟩
  have HB2 : Aside0 (Below w.heap.size w w2) := ⟨HB1.out.trans (hB.mono HB1.out.size)⟩
  have HQ2 := Aside0.mk (blk_below HQ1.out hB)
  by_cases hgc : givenC l ok [place] = 0
  rotate_left
  · have HV : Aside0 (tellG l place h = ([], givenC l ok [place])) := ⟨by unfold tellG; rw [← hok, if_neg hgc]⟩
    have hv := hv1 hgc
    subst hv
    obtain ⟨gc, hgc2⟩ : ∃ gc, gc = givenC l ok [place] := ⟨_, rfl⟩
    rw [← hgc2] at hgc HV ⊢
    have dg : (gc != 0) = true := by rw [bne_iff_ne]; exact hgc
    clear hgc hgc2 hok hv0 hv1 hB
    go_wp2_with fail
    go_returns
    exact ⟨none, 0, by rw [HV.out]; rfl, by rw [HV.out]; exact Nat.le_refl _, by rw [HV.out]; exact Kd.C_nil _ _, HB2.out⟩
  have HM := Aside0.mk (check_vat (given_in hgc).2.1)
  have HM16 := Aside0.mk ((check_iff l).1 (given_in hgc).2.1).most
  obtain ⟨b, hpb, hbl, hy⟩ := given_post hgc
  obtain ⟨y, hye⟩ : ∃ y, y = postA l place := ⟨_, rfl⟩
  have HV : Aside0 (tellG l place h = (if (!y.f0 || (!listF [h] l.length || !validF (moreL l h) (l.length + 1 : Nat))) = true then ([], 1) else if (tellF l b h).1 = true then ((tellF l b h).2, 0) else ([], 2))) := ⟨by unfold tellG; rw [← hok, if_pos hgc, hye, hpb]; rfl⟩
  rw [← hye] at hy
  subst hpb
  obtain ⟨g, cap, rfl, hO, hcap, hbg, hg2⟩ := own_of (hv0 hgc) (by omega)
  rw [hgc]
  have HO := Aside0.mk hO
  have HY := Aside0.mk hy
  have HBG : Aside0 (w.heap.size ≤ g) := ⟨Nat.le_trans HB1.out.size hbg⟩
  have HBG1 : Aside0 (w1.heap.size ≤ g ∧ w1.heap.size ≤ w2.heap.size ∧ w.heap.size ≤ w1.heap.size) := ⟨hbg, by omega, HB1.out.size⟩
  have db : decide (b < l.length) = true := decide_eq_true hbl
  clear hgc hok hv0 hv1 hO hy hB hg2 hye hbg
  go_upto_region 4 with fail
  go_cut [10] (fun u10 wx => ∃ A3 c3, u10 = .slice A3 (l.length + 1) c3 ∧ l.length + 1 ≤ c3 ∧ Aside0 (Kd.C k36 wx A3 (moreL l h).length (moreL l h)) ∧ Aside0 (Own wx w1.heap.size g cap l) ∧ Aside0 (wx.heap[gb]? = some (.cells #[.int .i64 h.f0, .int .i64 h.f1, .int .i64 h.f2] 31 (0, 0))) ∧ Aside0 (Below w.heap.size w wx) ∧ Aside0 (w1.heap.size ≤ wx.heap.size))
  case first =>
    obtain ⟨n0, n1, n2, _, _, _⟩ := blk3 HQ2.out
    have HSB : Aside0 (∀ w', Below w2.heap.size w2 w' → (w'.cell? ⟨gb, 0, none⟩ = some (.int .i64 h.f0) ∧ w'.cell? ⟨gb, 1, none⟩ = some (.int .i64 h.f1) ∧ w'.cell? ⟨gb, 2, none⟩ = some (.int .i64 h.f2))) := ⟨fun w' hb => by
      obtain ⟨a, b, c, _, _, _⟩ := blk3 (blk_below HQ2.out hb)
      exact ⟨a, b, c⟩⟩
    go_region_held3 (fun w' => w'.cell? ⟨gb, 0, none⟩ = some (.int .i64 h.f0) ∧ w'.cell? ⟨gb, 1, none⟩ = some (.int .i64 h.f1) ∧ w'.cell? ⟨gb, 2, none⟩ = some (.int .i64 h.f2)) (exact HSB.out _ (by repeat (first | exact Below.refl _ _ | exact HB4.out | exact HB3.out | refine below_drew ?_ | refine below_alloc ?_ _))) (first | (go_at_call 78; refine (clone_a w1.heap.size g cap l h w2 HO.out HBG1.out.2.1 hl6).mono ?_; rintro e w3 ⟨A3, c3, rfl, hB, hRA⟩; have HB3 := Aside0.mk hB; have HRA := Aside0.mk hRA; clear hB hRA) | (go_at_call 78; refine (clone_b w1.heap.size g cap l h w2 HO.out HBG1.out.2.1 hl6).mono ?_; rintro e w3 ⟨A3, c3, rfl, hB, hRA⟩; have HB3 := Aside0.mk hB; have HRA := Aside0.mk hRA; clear hB hRA) | (go_at_call 78; refine (clone_c w1.heap.size g cap l h w2 HO.out HBG1.out.2.1 hl6).mono ?_; rintro e w3 ⟨A3, c3, rfl, hB, hRA⟩; have HB3 := Aside0.mk hB; have HRA := Aside0.mk hRA; clear hB hRA) | (obtain ⟨bs, okp, hN, hF, hK, hBf, hb1, hb2⟩ := HRA.out; refine Kd.N_append_rows_step k36 bs (by rfl) (.tmp 25) (.tmp 30) 74 81 (.agg #[.bool false, .slice none 0 0, .slice none 0 0]) 56 rfl Try.underlying74 info_post rfl (by decide) (by decide) (.slice A3 l.length c3) l [⟨true, [], [h]⟩] _ 1 1 (fun k => w1.heap.size ≤ k) okp rfl rfl hN hF hK (fun k hk => Nat.le_trans HBG1.out.2.1 (Nat.le_trans hBf.size hk)) (Below.refl _ _) hb2 (by omega) ?_; intro v1 w4 hN1 hB1 hg1 hat; have HB4 : Aside0 (Below w2.heap.size w2 w4) := ⟨hBf.grown hg1 hBf.size (fun k hk => Nat.le_trans hb1 (Kd.N_base hN k hk))⟩; obtain ⟨A4, c4, rfl⟩ := Kd.N_slice hN1; have HN1 := Aside0.mk hN1; clear hN1 hB1 hg1 hat hN hF hK hBf hb1 hb2) | fail)
    all_goals
      go_wp2_with fail
      go_meet
      case rel =>
        have h1 := Kd.N_reads' HN1.out
        have hl : (moreL l h).length = l.length + 1 := by unfold moreL; simp
        exact ⟨A4, c4, by simp, by have := h1.2.1; simpa using this, ⟨h1.2.2⟩, ⟨HO.out.below HB4.out⟩, ⟨blk_below HQ2.out HB4.out⟩, ⟨below_step HB2.out HB4.out⟩, ⟨Nat.le_trans HBG1.out.2.1 HB4.out.size⟩⟩
  case rest =>
    obtain ⟨A3, c3, rfl, hc3, HC3, HO3, HQ3, HB3, HS3⟩ := hcut
    obtain ⟨B1, d1, B2, d2, p0, p1, p2, _, _, _, s1, s2, _, _⟩ := HO3.out.cells HY.out
    obtain ⟨n0, n1, n2, _, _, _⟩ := blk3 HQ3.out
    obtain ⟨u, hu⟩ : ∃ u, u = y.f0 := ⟨_, rfl⟩
    rw [← hu] at p0 HV
    have HU := Aside0.mk hu
    have hml : (moreL l h).length = l.length + 1 := by unfold moreL; simp
    have HSM : Aside0 (Short (moreL l h)) := ⟨by rw [hml]; have := HM16.out; omega, fun z hz => by
      unfold moreL at hz
      rcases List.mem_append.1 hz with hz | hz
      · exact HS.out.2 z hz
      · rw [List.mem_singleton.1 hz]
        exact ⟨by simp, by simp⟩⟩
    have HML := Aside0.mk hml
    clear s1 s2 hu hml
    go_upto_region 5 with fail
    go_cut [53] (fun u53 wx => u53 = .bool (!u || (!listF [h] l.length || !validF (moreL l h) (l.length + 1 : Nat))) ∧ Aside0 (Below wc.heap.size wc wx))
    case first =>
      cases u with
      | false =>
        go_wp2_with fail
        go_meet
        case rel => exact ⟨rfl, ⟨Below.refl _ _⟩⟩
      | true =>
        have HR1 := Aside0.mk (one_hint wc h)
        go_wp2_with fail
        refine (listed_any (some ⟨wc.heap.size, 0, none⟩) 1 1 [h] l.length _ rfl (Kd.R_reads' HR1.out).2.2 (Nat.le_refl _) (by simp)).mono ?_
        rintro e w5 ⟨rfl, hB⟩
        have HB5 : Aside0 (Below wc.heap.size wc w5) := ⟨below_step (below_alloc (Below.refl _ _) _) hB⟩
        obtain ⟨lb, hlb⟩ : ∃ b, b = listF [h] l.length := ⟨_, rfl⟩
        rw [← hlb]
        have HLB := Aside0.mk hlb
        clear hB hlb p0 p1 p2 n0 n1 n2
        cases lb with
        | false =>
          go_wp2_with fail
          go_meet
          case rel => exact ⟨by rw [← HLB.out]; rfl, HB5⟩
        | true =>
          go_wp2_with fail
          refine (valid_any A3 (l.length + 1) c3 (moreL l h) (l.length + 1 : Nat) w5 HML.out.symm (Kd.C_below HC3.out HB5.out) hc3 HSM.out).mono ?_
          rintro e w6 ⟨rfl, hB⟩
          have HB6 := Aside0.mk (below_step HB5.out hB)
          obtain ⟨vb, hvb⟩ : ∃ b, b = validF (moreL l h) (l.length + 1 : Nat) := ⟨_, rfl⟩
          rw [← hvb]
          have HVB := Aside0.mk hvb
          clear hB hvb
          cases vb
          all_goals
            go_wp2_with fail
            go_meet
            case rel => exact ⟨by rw [← HLB.out, ← HVB.out]; rfl, HB6⟩
    case rest =>
    obtain ⟨rfl, HB4⟩ := hcut
    have HO4 := Aside0.mk (HO3.out.below HB4.out)
    have HQ4 := Aside0.mk (blk_below HQ3.out HB4.out)
    have HB4' := Aside0.mk (below_step HB3.out HB4.out)
    have HS4 : Aside0 (w1.heap.size ≤ wc.heap.size) := ⟨Nat.le_trans HS3.out HB4.out.size⟩
    clear p0 p1 p2 n0 n1 n2
    obtain ⟨bad, hbad⟩ : ∃ b, b = (!u || (!listF [h] l.length || !validF (moreL l h) (l.length + 1 : Nat))) := ⟨_, rfl⟩
    rw [← hbad] at HV ⊢
    clear hbad
    cases bad with
    | true =>
      have HV2 : Aside0 (tellG l b h = ([], 1)) := ⟨by rw [HV.out]; rfl⟩
      clear HV
      go_wp2_with fail
      go_returns
      exact ⟨none, 0, by rw [HV2.out]; rfl, by rw [HV2.out]; exact Nat.le_refl _, by rw [HV2.out]; exact Kd.C_nil _ _, HB4'.out⟩
    | false =>
      rw [if_neg (by simp)] at HV
      obtain ⟨n0, n1, n2, _, _, _⟩ := blk3 HQ4.out
      go_wp2_with fail
      refine (tell_any w1.heap.size g cap l b h _ HO4.out hbl hcap HS4.out HBG1.out.1 HS.out).mono ?_
      rintro e w5 ⟨rfl, hO, hB, hk⟩
      have HO5 := Aside0.mk hO
      have HB5 : Aside0 (Below w.heap.size w w5) := ⟨HB4'.out.trans (hB.mono HBG1.out.2.2)⟩
      have HL : Aside0 ((tellF l b h).2.length = l.length) := ⟨tell_len _ _ _⟩
      obtain ⟨tb, htb⟩ : ∃ t, t = (tellF l b h).1 := ⟨_, rfl⟩
      obtain ⟨l2, hl2⟩ : ∃ t, t = (tellF l b h).2 := ⟨_, rfl⟩
      rw [← htb, ← hl2] at HV
      rw [← hl2] at HO5 HL
      rw [← htb]
      clear hO hB hk n0 n1 n2 htb hl2
      cases tb with
      | false =>
        have HV2 : Aside0 (tellG l b h = ([], 2)) := ⟨by rw [HV.out]; rfl⟩
        clear HV
        go_wp2_with fail
        go_returns
        exact ⟨none, 0, by rw [HV2.out]; rfl, by rw [HV2.out]; exact Nat.le_refl _, by rw [HV2.out]; exact Kd.C_nil _ _, HB5.out⟩
      | true =>
        have HV2 : Aside0 (tellG l b h = (l2, 0)) := ⟨by rw [HV.out]; rfl⟩
        have hC4 := HO5.out.C
        rw [HL.out] at hC4
        have HC4 := Aside0.mk hC4
        clear HV hC4
        go_wp2_with fail
        refine (posts_any (some ⟨g, 0, none⟩) l.length cap l2 _ HL.out.symm HC4.out hcap (by rw [HL.out]; exact hl6)).mono ?_
        rintro e w6 ⟨A5, c5, rfl, h5, hC5, hB⟩
        have HC5 := Aside0.mk hC5
        have HB6 := Aside0.mk (below_step HB5.out hB)
        clear hC5 hB
        go_wp2_with fail
        go_returns
        exact ⟨A5, c5, by rw [HV2.out]; rfl, by rw [HV2.out]; exact h5, by rw [HV2.out]; exact HC5.out, HB6.out⟩
end Go.Proofs.Ytjnceoohlcchnaa.Print

/-! A row of places, all alike. -/
namespace Go.Proofs.Ytjnceoohlcchnaa.Print
open Go Go.RowKit Go.Deep Go.Proofs.YtjnceoohlcchnaaW.PrintWords Go.Proofs.YtjnceoohlcchnaaW.PrintLast Go.Proofs.YtjnceoohlcchnaaW.PrintMore

set_option maxRecDepth 100000 in
set_option maxHeartbeats 8000000 in
theorem mul64_one (n : Nat) (hn : n ≤ 16) (w : World) : Calls Try.prog 115 #[.int .u64 1, .int .u64 (n : Int)] w fun e w' => e = .returned (.tuple #[.int .u64 0, .int .u64 (n : Int)]) ∧ w' = w := by
  rcases (show n = 0 ∨ n = 1 ∨ n = 2 ∨ n = 3 ∨ n = 4 ∨ n = 5 ∨ n = 6 ∨ n = 7 ∨ n = 8 ∨ n = 9 ∨ n = 10 ∨ n = 11 ∨ n = 12 ∨ n = 13 ∨ n = 14 ∨ n = 15 ∨ n = 16 by omega) with rfl | rfl | rfl | rfl | rfl | rfl | rfl | rfl | rfl | rfl | rfl | rfl | rfl | rfl | rfl | rfl | rfl
  all_goals
    go_enter Try.func115, Try.ntmps115
    go_wp2_with fail
    go_returns
    exact ⟨rfl, rfl⟩
theorem mul_one (n : Nat) (hn : n ≤ 16) (w : World) : Calls Try.prog 103 #[.int .u64 1, .int .u64 (n : Int)] w fun e w' => e = .returned (.tuple #[.int .u64 0, .int .u64 (n : Int)]) ∧ w' = w := by
  have HM := Aside0.mk (mul64_one n hn w)
  go_enter Try.func103, Try.ntmps103
  go_wp2_with fail
  refine HM.out.mono ?_
  rintro e w' ⟨rfl, rfl⟩
  go_wp2_with fail
  go_returns
  exact ⟨rfl, rfl⟩
/-- cells over and over -/
def repC (c : List Value) : Nat → List Value
  | 0 => []
  | k + 1 => c ++ repC c k
theorem repC_len (c : List Value) : ∀ k, (repC c k).length = k * c.length
  | 0 => by simp [repC]
  | k + 1 => by rw [repC, List.length_append, repC_len c k, Nat.succ_mul]; omega
theorem repC_add (c : List Value) : ∀ a b, repC c (a + b) = repC c a ++ repC c b
  | 0, b => by simp [repC]
  | a + 1, b => by rw [show a + 1 + b = (a + b) + 1 by omega, repC, repC, repC_add c a b, List.append_assoc]
theorem repC_one (c : List Value) (hc : ∀ v ∈ c, v.oneCell' = true) : ∀ k, ∀ v ∈ repC c k, v.oneCell' = true
  | 0, v, h => by cases h
  | k + 1, v, h => by
    rw [repC] at h
    rcases List.mem_append.1 h with h | h
    · exact hc v h
    · exact repC_one c hc k v h
def upC : List Value := [.bool true, .slice none 0 0, .slice none 0 0]
def noC : List Value := [.bool false, .slice none 0 0, .slice none 0 0]
def rowC (n m : Nat) : List Value := repC upC m ++ repC noC (n - m)
theorem rowC_len (n m : Nat) (h : m ≤ n) : (rowC n m).length = n * 3 := by
  unfold rowC
  rw [List.length_append, repC_len, repC_len]
  show m * 3 + (n - m) * 3 = n * 3
  omega
theorem rowC_step (n m q : Nat) (h : m + q ≤ n) : (rowC n m).take (m * 3) ++ repC upC q ++ (rowC n m).drop (m * 3 + (repC upC q).length) = rowC n (m + q) := by
  have h1 : (repC upC m).length = m * 3 := repC_len _ _
  have h2 : (repC upC q).length = q * 3 := repC_len _ _
  have h3 : (repC noC q).length = q * 3 := repC_len _ _
  unfold rowC
  rw [List.take_left' h1, h2, ← List.drop_drop, List.drop_left' h1, show n - m = q + (n - (m + q)) by omega, repC_add noC, List.drop_left' h3, repC_add upC]
theorem rowC_get (n m q j : Nat) (v : Value) (h : q ≤ m) (hj : (repC upC q)[j]? = some v) : (rowC n m)[j]? = some v := by
  have hl := (List.getElem?_eq_some_iff.1 hj).1
  unfold rowC
  rw [show m = q + (m - q) by omega, repC_add, List.append_assoc, List.getElem?_append_left hl]
  exact hj
theorem info_api : (Try.prog.info? 36).map (fun i => (i.zero, i.size, i.bytes)) = some (some (.agg #[.bool false, .slice none 0 0, .slice none 0 0]), 3, 56) := by kernel_rfl
theorem copy_posts (w : World) (ty : TypeId) (g o dLen dCap : Nat) (a : Addr) (sLen sCap : Nat) (cur : Array Value) (cs : List Value)
    (hg : w.heap[g]? = some (.cells cur 36 (0, 0))) (hn : cs.length = Nat.min sLen dLen * 3)
    (hsrc : ∀ j v, cs[j]? = some v → w.cell? (a.add j) = some v) (hfit : o + cs.length ≤ cur.size) (h1 : ∀ v ∈ cs, v.oneCell' = true) :
    (Builtin.copy_ #[22, 22] ty #[.slice (some ⟨g, o, none⟩) dLen dCap, .slice (some a) sLen sCap]).run Try.prog w =
      .ok (goInt (Nat.min sLen dLen)) (w.setRow g (cur.toList.take o ++ cs ++ cur.toList.drop (o + cs.length)).toArray) :=
  run_copy_rowk w 3 22 22 ty 36 g o dLen dCap a sLen sCap cur 36 cs Try.underlying22 (by kernel_rfl) hg hn hsrc hfit h1
theorem made_rows (n : Nat) (hn : n ≤ 16) : madeCells (Value.agg #[.bool false, .slice none 0 0, .slice none 0 0]).cells (n * 3) = (rowC n 0).toArray := by
  rcases (show n = 0 ∨ n = 1 ∨ n = 2 ∨ n = 3 ∨ n = 4 ∨ n = 5 ∨ n = 6 ∨ n = 7 ∨ n = 8 ∨ n = 9 ∨ n = 10 ∨ n = 11 ∨ n = 12 ∨ n = 13 ∨ n = 14 ∨ n = 15 ∨ n = 16 by omega) with rfl | rfl | rfl | rfl | rfl | rfl | rfl | rfl | rfl | rfl | rfl | rfl | rfl | rfl | rfl | rfl | rfl
  all_goals kernel_rfl
theorem make_posts (n : Nat) (hn : n ≤ 16) (w : World) : (Instr.makeSlice 22 (.int .i64 (n : Int)) (.int .i64 (n : Int))).run Try.prog w = .ok (.slice (some ⟨w.heap.size, 0, none⟩) n n) (w.alloc (.cells (rowC n 0).toArray 36)) := by
  obtain ⟨i0, hi, he⟩ := Option.map_eq_some_iff.1 info_api
  simp only [Prod.mk.injEq] at he
  obtain ⟨hz, hs, hb⟩ := he
  have h := run_make w 22 36 i0 _ Try.underlying22 hi hz .i64 .i64 (n : Int) (n : Int) (by omega) (by omega) (by rw [hb]; omega) (by omega)
  rw [hs, Int.toNat_natCast, made_rows n hn] at h
  exact h
def RepRel (w : World) (g n : Nat) (u8 : Value) (wr : World) : Prop :=
  ∃ m : Nat, u8 = .int .i64 (m : Int) ∧ 1 ≤ m ∧ m ≤ n ∧ Aside0 (wr.heap[g]? = some (.cells (rowC n m).toArray 36 (0, 0))) ∧ Aside0 (Below w.heap.size w wr)
set_option maxRecDepth 100000 in
set_option maxHeartbeats 8000000 in
theorem repeat_any (n gx : Nat) (w : World) (h1 : 1 ≤ n) (hn : n ≤ 16) (hx : w.heap[gx]? = some (.cells upC.toArray 36 (0, 0))) :
    Calls Try.prog 84 #[.slice (some ⟨gx, 0, none⟩) 1 1, .int .i64 (n : Int)] w fun e w' => ∃ g, e = .returned (.slice (some ⟨g, 0, none⟩) n n) ∧ w'.heap[g]? = some (.cells (rowC n n).toArray 36 (0, 0)) ∧ Below w.heap.size w w' := by
  have HX := Aside0.mk hx
  have hlx := blk_lt hx
  clear hx
  go_enter Try.func84, Try.ntmps84
  go_wp2_with fail
  refine (mul_one n hn w).mono ?_
  rintro e w' ⟨rfl, rfl⟩
  have hmk : ∀ W, (Instr.makeSlice 22 (.int .i64 (n : Int)) (.int .i64 (n : Int))).run Try.prog W = .ok (.slice (some ⟨W.heap.size, 0, none⟩) n n) (W.alloc (.cells (rowC n 0).toArray 36)) := fun W => make_posts n hn W
  obtain ⟨g, hg⟩ : ∃ g, g = w'.heap.size := ⟨_, rfl⟩
  obtain ⟨w1, hw1⟩ : ∃ w1, w1 = w'.alloc (.cells (rowC n 0).toArray 36) := ⟨_, rfl⟩
  have HG1 : Aside0 (w1.heap[g]? = some (.cells (rowC n 0).toArray 36 (0, 0))) := ⟨by rw [hw1, hg]; exact heap_alloc_new _ _⟩
  have HX1 : Aside0 (w1.heap[gx]? = some (.cells upC.toArray 36 (0, 0))) := ⟨by rw [hw1]; exact blk_alloc HX.out _⟩
  have HB1 : Aside0 (Below w'.heap.size w' w1) := ⟨by rw [hw1]; exact below_alloc (Below.refl _ _) _⟩
  have HGW : Aside0 (w'.heap.size ≤ g) := ⟨by omega⟩
  have hcp1 : ∀ ty, (Builtin.copy_ #[22, 22] ty #[.slice (some ⟨g, 0, none⟩) n n, .slice (some ⟨gx, 0, none⟩) 1 1]).run Try.prog w1 = .ok (goInt 1) (w1.setRow g (rowC n 1).toArray) := fun ty => by
    have h := copy_posts w1 ty g 0 n n ⟨gx, 0, none⟩ 1 1 _ upC HG1.out (by simp only [Nat.min_def]; split <;> simp [upC] <;> omega) (fun j v hj => by
      rw [Addr.add_lit, cell_of_row w1 gx _ upC.toArray _ (0, 0) HX1.out]
      simpa using hj) (by rw [List.size_toArray, rowC_len n 0 (Nat.zero_le _)]; (try simp [upC]); (try omega)) (fun v hv => by simp [upC] at hv; rcases hv with rfl | rfl | rfl <;> rfl)
    rw [show Nat.min 1 n = 1 by simp only [Nat.min_def]; split <;> omega] at h
    have h2 := rowC_step n 0 1 (by omega)
    rw [show repC upC 1 = upC from by simp [repC], Nat.zero_mul] at h2
    rw [h, ← h2]
    rfl
  have HCP := Aside0.mk hcp1
  have hmkE := Aside0.mk (And.intro hw1 hg)
  clear hw1 hg hcp1
  go_upto_region 7 with fail
  rw [← hmkE.out.1, ← hmkE.out.2]
  clear hmk
  go_step
  go_step
  go_step
  go_step
  go_step
  go_step
  go_step
  refine wpList_copy_runI _ rfl _ _ 22 22 rfl _ _ rfl rfl (HCP.out _) ?_
  have HG2 : Aside0 ((w1.setRow g (rowC n 1).toArray).heap[g]? = some (.cells (rowC n 1).toArray 36 (0, 0))) := ⟨setRow_heap _ g _ _ _ _ HG1.out⟩
  have HB2 : Aside0 (Below w'.heap.size w' (w1.setRow g (rowC n 1).toArray)) := ⟨below_row HB1.out HGW.out _⟩
  clear HCP hmkE
  go_wp2_with fail
  go_loopw [8] (fun u8 wr => RepRel w' g n u8 wr) (fun u8 _ => n - (intOf u8).toNat)
  case atStart => exact ⟨1, rfl, Nat.le_refl _, h1, HG2, HB2⟩
  case round =>
    obtain ⟨m, rfl, hm1, hmn, HG, HB⟩ := hrel
    by_cases hlt : m < n
    rotate_left
    · have hd : decide (m < n) = false := decide_eq_false hlt
      have HG3 : Aside0 (wr.heap[g]? = some (.cells (rowC n n).toArray 36 (0, 0))) := ⟨by have h := HG.out; rwa [show m = n by omega] at h⟩
      go_wp2_with fail
      go_returns
      exact ⟨g, rfl, HG3.out, HB.out⟩
    have hd : decide (m < n) = true := decide_eq_true hlt
    obtain ⟨q, hq⟩ : ∃ q, q = Nat.min m (n - m) := ⟨_, rfl⟩
    have hq1 : 1 ≤ q := by rw [hq]; simp only [Nat.min_def]; split <;> omega
    have hq2 : q ≤ m := by rw [hq]; exact Nat.min_le_left _ _
    have hq3 : m + q ≤ n := by have : q ≤ n - m := by rw [hq]; exact Nat.min_le_right _ _
                               omega
    have hcp : ∀ ty dc sc, (Builtin.copy_ #[22, 22] ty #[.slice (some ⟨g, m * 3, none⟩) (n - m) dc, .slice (some ⟨g, 0, none⟩) m sc]).run Try.prog wr.drew = .ok (goInt (q : Int)) (wr.drew.setRow g (rowC n (m + q)).toArray) := fun ty dc sc => by
      have hlq : (repC upC q).length = q * 3 := repC_len _ _
      have h := copy_posts wr.drew ty g (m * 3) (n - m) dc ⟨g, 0, none⟩ m sc _ (repC upC q) HG.out (by rw [hlq, hq]) (fun j v hj => by
        rw [Addr.add_lit, cell_of_row wr.drew g _ _ _ (0, 0) HG.out]
        have h2 := rowC_get n m q j v hq2 hj
        simpa using h2) (by rw [List.size_toArray, rowC_len n m (by omega), hlq]; omega) (repC_one upC (fun v hv => by simp [upC] at hv; rcases hv with rfl | rfl | rfl <;> rfl) q)
      rw [← hq] at h
      have h2 := rowC_step n m q hq3
      rw [h, ← h2]
    have hw : IntKind.i64.wrap ((m : Int) + (q : Int)) = ((m + q : Nat) : Int) := by rw [IntKind.wrap_i64]; omega
    have HGN : Aside0 ((wr.drew.setRow g (rowC n (m + q)).toArray).heap[g]? = some (.cells (rowC n (m + q)).toArray 36 (0, 0))) := ⟨setRow_heap wr.drew g _ _ _ _ HG.out⟩
    have HBN : Aside0 (Below w'.heap.size w' (wr.drew.setRow g (rowC n (m + q)).toArray)) := ⟨below_row (below_drew HB.out) HGW.out _⟩
    have mixed : Try.prog.follows Departure.mixedOrders = true := by kernel_rfl
    clear hq
    go_upto_region 9 with fail
    go_region_law_o (refine step_copy_runI rfl _ _ 22 22 rfl (.slice (some ⟨g, m * 3, none⟩) (n - m) (n - m)) (.slice (some ⟨g, 0, none⟩) m n) (by simp [Act.eval, Act.put] <;> omega) (by simp [Act.eval, Act.put]) (hcp _ _ _) ?_)
    all_goals
      go_wp2_with fail
      go_roundw
      case measure => simp [intOf]; omega
      case rel => exact ⟨m + q, by first | rfl | (rw [hw]) | (simp [hw]), by omega, hq3, HGN, HBN⟩
end Go.Proofs.Ytjnceoohlcchnaa.Print

/-! New maps. -/
namespace Go.Proofs.Ytjnceoohlcchnaa.Print
open Go Go.RowKit Go.Deep Go.Proofs.YtjnceoohlcchnaaW.PrintWords Go.Proofs.YtjnceoohlcchnaaW.PrintLast Go.Proofs.YtjnceoohlcchnaaW.PrintMore

def newL (n : Nat) : List S36 := List.replicate n ⟨true, [], []⟩
def newF (places : Int) : List S36 × Int := if 1 ≤ places ∧ places ≤ 16 then (newL places.toNat, 0) else ([], 1)
theorem up_at : ∀ (n j k : Nat) (u : Value), j < n → upC[k]? = some u → (repC upC n)[j * 3 + k]? = some u
  | 0, j, k, u, h, _ => by omega
  | n + 1, j, k, u, h, hk => by
    have hk3 := (List.getElem?_eq_some_iff.1 hk).1
    have hl : upC.length = 3 := rfl
    rw [repC]
    cases j with
    | zero => rw [List.getElem?_append_left (by omega), Nat.zero_mul, Nat.zero_add]; exact hk
    | succ j =>
      rw [List.getElem?_append_right (by omega), hl, show (j + 1) * 3 + k - 3 = j * 3 + k by omega]
      exact up_at n j k u (by omega) hk
theorem new_C {w : World} {g n : Nat} (hn : n ≤ 16) (h : w.heap[g]? = some (.cells (rowC n n).toArray 36 (0, 0))) : Kd.C k36 w (some ⟨g, 0, none⟩) (newL n).length (newL n) := by
  have hl : (newL n).length = n := List.length_replicate
  refine ⟨rfl, by omega, fun _ => ⟨_, rfl, fun j x hj => ?_⟩⟩
  have hxm : x ∈ newL n := List.mem_of_getElem? hj
  have hjl : j < n := by rw [← hl]; exact (List.getElem?_eq_some_iff.1 hj).1
  have hxe : x = ⟨true, [], []⟩ := List.eq_of_mem_replicate hxm
  subst hxe
  refine ⟨upC, rfl, k36.K_of_M (k36_mkM (w := w) 0 (fun _ => True) ⟨true, [], []⟩ (Kd.R_nil _ _ _ _ _) (Kd.R_nil _ _ _ _ _)), fun k u hk => ?_⟩
  have hc := cell_of_row w g (j * 3 + k) _ _ (0, 0) h
  have hu := up_at n j k u hjl hk
  have hr : (rowC n n).toArray[j * 3 + k]? = some u := by
    unfold rowC
    rw [Nat.sub_self]
    simpa [repC] using hu
  rw [hr] at hc
  have e : (⟨g, 0, none⟩ : Addr).add (j * 3 + k) = ⟨g, j * 3 + k, none⟩ := by rw [Addr.add_lit, Nat.zero_add]
  show w.cell? ((⟨g, 0, none⟩ : Addr).add (j * 3 + k)) = some u
  rw [e]
  exact hc
set_option maxRecDepth 100000 in
theorem New_any (places : Int) (w : World) :
    Calls Try.prog 35 #[.int .i64 places] w fun e w' => ∃ A2 c2, e = .returned (.tuple #[.slice A2 (newF places).1.length c2, .int .i64 (newF places).2]) ∧ (newF places).1.length ≤ c2 ∧ Kd.C k36 w' A2 (newF places).1.length (newF places).1 ∧ Below w.heap.size w w' := by
  by_cases h1 : 1 ≤ places
  rotate_left
  · have HV : Aside0 (newF places = ([], 1)) := ⟨by unfold newF; rw [if_neg (fun h => h1 h.1)]⟩
    have d1 : decide (places < 1) = true := decide_eq_true (by omega)
    go_enter Try.func35, Try.ntmps35
    go_wp2_with fail
    go_returns
    exact ⟨none, 0, by rw [HV.out]; rfl, by rw [HV.out]; exact Nat.le_refl _, by rw [HV.out]; exact Kd.C_nil _ _, Below.refl _ _⟩
  have d1 : decide (places < 1) = false := decide_eq_false (by omega)
  by_cases h2 : places ≤ 16
  rotate_left
  · have HV : Aside0 (newF places = ([], 1)) := ⟨by unfold newF; rw [if_neg (fun h => h2 h.2)]⟩
    have d2 : decide ((16 : Int) < places) = true := decide_eq_true (by omega)
    go_enter Try.func35, Try.ntmps35
    go_wp2_with fail
    go_returns
    exact ⟨none, 0, by rw [HV.out]; rfl, by rw [HV.out]; exact Nat.le_refl _, by rw [HV.out]; exact Kd.C_nil _ _, Below.refl _ _⟩
  have d2 : decide ((16 : Int) < places) = false := decide_eq_false (by omega)
  obtain ⟨n, rfl⟩ : ∃ n : Nat, places = (n : Int) := ⟨places.toNat, by omega⟩
  have HV : Aside0 (newF n = (newL n, 0)) := ⟨by unfold newF; rw [if_pos ⟨h1, h2⟩, Int.toNat_natCast]⟩
  go_enter Try.func35, Try.ntmps35
  go_wp2_with fail
  have hx := heap_alloc_new w (Obj.cells upC.toArray 36)
  have hB1 := below_alloc (Below.refl w.heap.size w) (Obj.cells upC.toArray 36)
  have HRP := Aside0.mk (And.intro (repeat_any n w.heap.size _ (by omega) (by omega) hx) hB1)
  clear hx hB1
  refine HRP.out.1.mono ?_
  rintro e w' ⟨g, rfl, hG, hB⟩
  have HB := Aside0.mk (below_step HRP.out.2 hB)
  have HC := Aside0.mk (new_C (by omega) hG)
  have HLN : Aside0 ((newL n).length = n) := ⟨List.length_replicate⟩
  clear hG hB
  go_wp2_with fail
  go_returns
  exact ⟨some ⟨g, 0, none⟩, n, by rw [HV.out]; show _ = Ending.returned (.tuple #[.slice _ (newL n).length _, _]); rw [HLN.out]; rfl, by rw [HV.out]; exact Nat.le_of_eq HLN.out, by rw [HV.out]; exact HC.out, HB.out⟩
end Go.Proofs.Ytjnceoohlcchnaa.Print
