/- What copying a map, handing it out, and looking through it come to: contracts, whatever the input. -/
import Derived.Test.YtjnceoohlcchnaaRA
import Derived.Deep.RegionWith
import Derived.Deep.DeepCutAuto
import Derived.Deep.CutBlock
import Derived.Test.YtjnceoohlcchnaaR1
import Derived.BigQuiet
import Derived.Deep.QuietTactic
import Derived.Laws.StructEq
import Derived.WideKeyRuns
set_option linter.unusedVariables false
set_option linter.unusedSimpArgs false
/-! A place's copy. -/
namespace Go.Proofs.Ytjnceoohlcchnaa.Print
open Go Go.RowKit Go.Deep Go.Proofs.YtjnceoohlcchnaaW.PrintWords Go.Proofs.YtjnceoohlcchnaaW.PrintLast Go.Proofs.YtjnceoohlcchnaaW.PrintMore

theorem R_store3 {α : Type} {d : Kd α} {e base g t : Nat} {ok : Nat → Prop} {W : World} {v : Value} {xs : List α} {cs : Array Value} (h : d.R e W base ok v xs) (hb : W.heap[g]? = some (.cells cs t (0, 0))) (ht : ∀ q, q ∈ e :: d.E → q ≠ t) (a b c : Value) :
    d.R e (((W.setCell ⟨g, 0, none⟩ a).setCell ⟨g, 1, none⟩ b).setCell ⟨g, 2, none⟩ c) base ok v xs :=
  Kd.R_mono (Kd.R_far (p := ⟨g, 2, none⟩) (Kd.R_far (p := ⟨g, 1, none⟩) (Kd.R_far (p := ⟨g, 0, none⟩) (Kd.R_types h hb ht) (fun _ hk => hk.2) a) (fun _ hk => hk.2) b) (fun _ hk => hk.2) c) (fun _ h => h.1)

theorem results_c {P : Program} {fn : Func} {p : Tmp} {ty : TypeId} (h : fn.results = #[.cell p ty]) (tmps : Array Value) (w : World) (g : Nat) (t : TypeId) (cs : Array Value) (fr : Nat × Nat) (d : TypeDesc)
    (hp : tmps.getD p undef = .pointer (some ⟨g, 0, none⟩)) (hg : w.heap[g]? = some (.cells cs t fr))
    (hu : P.underlying ty = some d) (hd : (match d with | .struct _ | .array _ _ => true | _ => false) = true) (hi : (P.info? ty).map (·.size) = some cs.size) :
    (results fn tmps).run P w = .ok (.agg cs) w := by
  have hp' : tmps[p]?.getD undef = .pointer (some ⟨g, 0, none⟩) := by simpa using hp
  simp [results, h, hp', asAddr, run_loadVar_row w g t ty cs fr d hg hu hd hi]
set_option maxRecDepth 100000 in
set_option maxHeartbeats 8000000 in
theorem copy_any (up : Bool) (A1 : Option Addr) (c1 : Nat) (l1 : List S31) (A2 : Option Addr) (c2 : Nat) (l2 : List S31) (w : World) (h1 : Kd.C k31 w A1 l1.length l1) (hc1 : l1.length ≤ c1) (hl1 : l1.length ≤ 1000000000000)
    (h2 : Kd.C k31 w A2 l2.length l2) (hc2 : l2.length ≤ c2) (hl2 : l2.length ≤ 1000000000000) :
    Calls Try.prog 89 #[.agg #[.bool up, .slice A1 l1.length c1, .slice A2 l2.length c2]] w fun e w' => ∃ v1 v2, e = .returned (.agg #[.bool up, v1, v2]) ∧ Kd.R k31 31 w' w.heap.size (fun _ => True) v1 l1 ∧ Kd.R k31 31 w' w.heap.size (fun _ => True) v2 l2 ∧ Below w.heap.size w w' := by
  have H1 := Aside0.mk h1
  have H2 := Aside0.mk h2
  clear h1 h2
  go_enter Try.func89, Try.ntmps89
  go_upto_region 1 with fail
  obtain ⟨gp, hgp⟩ : ∃ g, g = w.heap.size := ⟨_, rfl⟩
  obtain ⟨g, hg⟩ : ∃ g, g = w.heap.size + 1 := ⟨_, rfl⟩
  rw [← hg, ← hgp]
  obtain ⟨w1, hw1⟩ : ∃ w1, w1 = (w.alloc (Obj.cells #[Value.bool up, Value.slice A1 l1.length c1, Value.slice A2 l2.length c2] 81)).alloc (Obj.cells #[Value.bool false, Value.slice none 0 0, Value.slice none 0 0] 36) := ⟨_, rfl⟩
  rw [← hw1]
  have HB : Aside0 (Below w.heap.size w w1) := ⟨by rw [hw1]; exact below_alloc (below_alloc (Below.refl _ _) _) _⟩
  have HQ : Aside0 (w1.heap[g]? = some (.cells #[.bool false, .slice none 0 0, .slice none 0 0] 36 (0, 0))) := ⟨by
    rw [hw1, hg]
    have h := heap_alloc_new (w.alloc (Obj.cells #[Value.bool up, Value.slice A1 l1.length c1, Value.slice A2 l2.length c2] 81)) (Obj.cells #[Value.bool false, Value.slice none 0 0, Value.slice none 0 0] 36)
    simpa using h⟩
  have HP : Aside0 (w1.heap[gp]? = some (.cells #[.bool up, .slice A1 l1.length c1, .slice A2 l2.length c2] 81 (0, 0))) := ⟨by
    rw [hw1, hgp]
    have h := heap_alloc_new w (Obj.cells #[Value.bool up, Value.slice A1 l1.length c1, Value.slice A2 l2.length c2] 81)
    exact blk_alloc h _⟩
  have HG : Aside0 (w.heap.size ≤ g) := ⟨by omega⟩
  clear hw1 hg hgp
  obtain ⟨q0, q1, q2, e0, e1, e2⟩ := blk3 HQ.out
  obtain ⟨p0, p1, p2, d0, d1, d2⟩ := blk3 HP.out
  have hu := Try.underlying36
  go_region_with (first
    | (go_at_call 86; refine (clone_hints A1 c1 l1 _ (Kd.C_below H1.out (by first | exact HB.out | exact below_drew HB.out)) hc1 hl1).mono ?_; rintro e wa ⟨va, rfl, hR, hB⟩; obtain ⟨Aa, ca, rfl⟩ := Kd.R_slice hR; have HRa := Aside0.mk (Kd.R_lower hR (below_size (by first | exact HB.out | exact below_drew HB.out))); (try replace HRb := Aside0.mk (Kd.R_below HRb.out hB)); replace HQ := Aside0.mk (blk_below (by first | exact HQ.out | exact blk_drew HQ.out) hB); replace HP := Aside0.mk (blk_below (by first | exact HP.out | exact blk_drew HP.out) hB); replace HB : Aside0 (Below w.heap.size w wa) := ⟨below_step (by first | exact HB.out | exact below_drew HB.out) hB⟩; clear hR hB; obtain ⟨qa0, qa1, qa2, ea0, ea1, ea2⟩ := blk3 HQ.out; obtain ⟨pa0, pa1, pa2, da0, da1, da2⟩ := blk3 HP.out)
    | (go_at_call 86; refine (clone_hints A2 c2 l2 _ (Kd.C_below H2.out (by first | exact HB.out | exact below_drew HB.out)) hc2 hl2).mono ?_; rintro e wb ⟨vb, rfl, hR, hB⟩; obtain ⟨Ab, cb, rfl⟩ := Kd.R_slice hR; have HRb := Aside0.mk (Kd.R_lower hR (below_size (by first | exact HB.out | exact below_drew HB.out))); (try replace HRa := Aside0.mk (Kd.R_below HRa.out hB)); replace HQ := Aside0.mk (blk_below (by first | exact HQ.out | exact blk_drew HQ.out) hB); replace HP := Aside0.mk (blk_below (by first | exact HP.out | exact blk_drew HP.out) hB); replace HB : Aside0 (Below w.heap.size w wb) := ⟨below_step (by first | exact HB.out | exact below_drew HB.out) hB⟩; clear hR hB; obtain ⟨qb0, qb1, qb2, eb0, eb1, eb2⟩ := blk3 HQ.out; obtain ⟨pb0, pb1, pb2, db0, db1, db2⟩ := blk3 HP.out))
  all_goals
    go_wp2_with fail
    refine bodyPost_ret (results_c rfl _ _ g 36 #[.bool up, .slice Aa l1.length ca, .slice Ab l2.length cb] (0, 0) _ rfl (blk_store3 HQ.out _ _ _) Try.underlying36 rfl (by kernel_rfl)) rfl ?_
    exact ⟨_, _, rfl, R_store3 HRa.out HQ.out (by decide) _ _ _, R_store3 HRb.out HQ.out (by decide) _ _ _, below_store3 HB.out HG.out _ _ _⟩
end Go.Proofs.Ytjnceoohlcchnaa.Print

/-! A map as the program holds it. -/
namespace Go.Proofs.Ytjnceoohlcchnaa.Print
open Go Go.RowKit Go.Deep Go.Proofs.YtjnceoohlcchnaaW.PrintWords Go.Proofs.YtjnceoohlcchnaaW.PrintLast Go.Proofs.YtjnceoohlcchnaaW.PrintMore

theorem post_at {w : World} {A : Option Addr} {l : List S36} (h : Kd.C k36 w A l.length l) (i : Nat) (hi : i < l.length) :
    ∃ ad x A1 c1 A2 c2, A = some ad ∧ l[i]? = some x ∧ w.cell? (ad.add (i * 3)) = some (.bool x.f0) ∧ w.cell? ⟨(ad.add (i * 3)).block, (ad.add (i * 3)).off + 1, none⟩ = some (.slice A1 x.f1.length c1) ∧ w.cell? ⟨(ad.add (i * 3)).block, (ad.add (i * 3)).off + 2, none⟩ = some (.slice A2 x.f2.length c2) ∧
      x.f1.length ≤ c1 ∧ Kd.C k31 w A1 x.f1.length x.f1 ∧ x.f2.length ≤ c2 ∧ Kd.C k31 w A2 x.f2.length x.f2 := by
  obtain ⟨ad, A1, c1, A2, c2, e, h0, h1, h2, l1, g1, l2, g2⟩ := at_T36 h (i : Int) (by omega) (by omega)
  have hx : rd_T36 l (i : Int) = l[i] := by
    unfold rd_T36
    simp [List.getD_eq_getElem?_getD, List.getElem?_eq_getElem hi]
  rw [hx] at h0 h1 h2 l1 g1 l2 g2
  exact ⟨ad, l[i], A1, c1, A2, c2, e, List.getElem?_eq_getElem hi, h0, h1, h2, l1, g1, l2, g2⟩
/-- lists short enough to be copied -/
def Short (l : List S36) : Prop := l.length ≤ 1000000 ∧ ∀ x ∈ l, x.f1.length ≤ 1000000000000 ∧ x.f2.length ≤ 1000000000000
/-- a map of one's own, in a row of posts -/
def FreshM (w w' : World) (v : Value) (l : List S36) : Prop := Kd.R k36 81 w' w.heap.size (fun _ => True) v l ∧ Below w.heap.size w w'
theorem info_post : (Try.prog.info? 81).map (fun i => (i.zero, i.size, i.bytes)) = some (some (.agg #[.bool false, .slice none 0 0, .slice none 0 0]), 3, 56) := by kernel_rfl
def OpRel (w : World) (l : List S36) (u3 u8 : Value) (wr : World) : Prop :=
  ∃ i : Nat, u8 = .int .i64 i ∧ i ≤ l.length ∧ Aside0 (Kd.R k36 81 wr w.heap.size (fun _ => True) u3 (l.take i)) ∧ Aside0 (Below w.heap.size w wr)
set_option maxRecDepth 100000 in
theorem open_any (A : Option Addr) (c : Nat) (l : List S36) (w : World) (hr : Kd.C k36 w A l.length l) (hc : l.length ≤ c) (hl : Short l) :
    Calls Try.prog 54 #[.slice A l.length c] w fun e w' => ∃ v, e = .returned v ∧ FreshM w w' v l := by
  have HR := Aside0.mk hr
  have HS := Aside0.mk hl
  have hl6 := hl.1
  clear hr hl
  go_enter Try.func54, Try.ntmps54
  go_wp2_with fail
  go_loopw [3, 8] (fun u3 u8 wr => OpRel w l u3 u8 wr) (fun _ u8 _ => l.length - (intOf u8).toNat)
  case atStart => exact ⟨0, rfl, Nat.zero_le _, ⟨Kd.R_nil _ _ _ _ _⟩, ⟨Below.refl _ _⟩⟩
  case round =>
    obtain ⟨i, rfl, hi, HO, HB⟩ := hrel
    by_cases hlt : i < l.length
    rotate_left
    · have hd : decide (i < l.length) = false := decide_eq_false hlt
      go_wp2_with fail
      go_returns
      have h := HO.out
      rw [List.take_of_length_le (by omega)] at h
      exact ⟨_, rfl, h, HB.out⟩
    have hd : decide (i < l.length) = true := decide_eq_true hlt
    obtain ⟨ad, x, A1, c1, A2, c2, rfl, hx, p0, p1, p2, hc1, hC1, hc2, hC2⟩ := post_at (Kd.C_below HR.out HB.out) i hlt
    have HX := Aside0.mk hx
    have HC1 := Aside0.mk hC1
    have HC2 := Aside0.mk hC2
    have HSX := Aside0.mk (HS.out.2 x (List.mem_of_getElem? hx))
    clear hx hC1 hC2
    have hu := Try.underlying36
    go_upto_region 5 with fail
    obtain ⟨g, hg⟩ : ∃ g, g = wr.heap.size := ⟨_, rfl⟩
    obtain ⟨W, hW⟩ : ∃ W, W = wr.alloc (Obj.cells #[Value.bool x.f0, Value.slice A1 x.f1.length c1, Value.slice A2 x.f2.length c2] 36) := ⟨_, rfl⟩
    rw [← hW, ← hg]
    have hBW : Below wr.heap.size wr W := by rw [hW]; exact below_alloc (Below.refl _ _) _
    have HQ : Aside0 (W.heap[g]? = some (.cells #[.bool x.f0, .slice A1 x.f1.length c1, .slice A2 x.f2.length c2] 36 (0, 0))) := ⟨by rw [hW, hg]; exact heap_alloc_new _ _⟩
    replace HO := Aside0.mk (Kd.R_below HO.out hBW)
    replace HC1 := Aside0.mk (Kd.C_below HC1.out hBW)
    replace HC2 := Aside0.mk (Kd.C_below HC2.out hBW)
    have HBW : Aside0 (Below w.heap.size w W) := ⟨HB.out.trans (hBW.mono HB.out.size)⟩
    clear hW hg hBW HB p0 p1 p2
    obtain ⟨k0, k1, k2, f0, f1, f2⟩ := blk3 HQ.out
    go_wp2_with fail
    refine (copy_any x.f0 A1 c1 x.f1 A2 c2 x.f2 W HC1.out hc1 HSX.out.1 HC2.out hc2 HSX.out.2).mono ?_
    rintro e w2 ⟨v1, v2, rfl, hR1, hR2, hB⟩
    obtain ⟨B1, d1, rfl⟩ := Kd.R_slice hR1
    obtain ⟨B2, d2, rfl⟩ := Kd.R_slice hR2
    have HP : Aside0 (Kd.M k36 w2 w.heap.size (fun k => True ∧ some k ≠ u3.ownBlock) x [.bool x.f0, .slice B1 x.f1.length d1, .slice B2 x.f2.length d2]) := ⟨k36_mkM _ _ _ x (Kd.R_lower (Kd.R_new' hR1 (Kd.R_lt HO.out)) HBW.out.size) (Kd.R_lower (Kd.R_new' hR2 (Kd.R_lt HO.out)) HBW.out.size)⟩
    have HO2 := Aside0.mk (Kd.R_below HO.out hB)
    have HB2 : Aside0 (Below w.heap.size w w2) := ⟨HBW.out.trans (hB.mono HBW.out.size)⟩
    clear hR1 hR2 hB HQ HO HBW HC1 HC2 k0 k1 k2 f0 f1 f2
    go_wp2_with (at_builtin; refine Kd.R_append k36 (w0 := w) w.heap.size rfl (.tmp 12) (.tmp 17) 74 81 (.agg #[.bool false, .slice none 0 0, .slice none 0 0]) 56 rfl Try.underlying74 info_post rfl (by decide) (by omega) u3 (l.take i) x [.bool x.f0, .slice B1 x.f1.length d1, .slice B2 x.f2.length d2] (fun _ => True) (fun k => True ∧ some k ≠ u3.ownBlock) rfl rfl HP.out (fun _ hk => hk) (fun _ _ => trivial) HO2.out HB2.out HB2.out.size ?aL ?_)
    case aL => rw [List.length_take]; omega
    intro v3 w3 hO hB3 _ _
    have HO3 := Aside0.mk hO
    have HB3 := Aside0.mk hB3
    clear hO hB3
    go_wp2_with fail
    go_roundw
    case measure => simp [intOf]; omega
    case rel => exact ⟨i + 1, by go_num, by omega, ⟨by rw [List.take_add_one, HX.out]; exact HO3.out⟩, HB3⟩

/-- a map as it is handed out -/
def FreshP (w w' : World) (v : Value) (l : List S36) : Prop := Kd.V k36 36 w' w.heap.size (fun _ => True) v l ∧ Below w.heap.size w w'
end Go.Proofs.Ytjnceoohlcchnaa.Print

/-! A map handed out; which lists are right. -/
namespace Go.Proofs.Ytjnceoohlcchnaa.Print
open Go Go.RowKit Go.Deep Go.Proofs.YtjnceoohlcchnaaW.PrintWords Go.Proofs.YtjnceoohlcchnaaW.PrintLast Go.Proofs.YtjnceoohlcchnaaW.PrintMore

def asPosts (l : List S36) : List S81 := l.map fun x => ⟨x⟩
theorem asPosts_len (l : List S36) : (asPosts l).length = l.length := by simp [asPosts]
theorem C_posts {w : World} {A : Option Addr} {n : Nat} {l : List S36} (h : Kd.C k36 w A n l) : Kd.C k81 w A n (asPosts l) := by
  obtain ⟨h1, h2, h3⟩ := h
  refine ⟨by rw [asPosts_len]; exact h1, h2, fun hn => ?_⟩
  obtain ⟨ad, e, hc⟩ := h3 hn
  refine ⟨ad, e, fun j p hj => ?_⟩
  obtain ⟨x, hx, rfl⟩ : ∃ x, l[j]? = some x ∧ p = ⟨x⟩ := by
    rw [asPosts, List.getElem?_map] at hj
    obtain ⟨x, hx, e⟩ := Option.map_eq_some_iff.1 hj
    exact ⟨x, hx, e.symm⟩
  obtain ⟨cs, hl, hk, hcell⟩ := hc j x hx
  exact ⟨cs, hl, hk, hcell⟩
theorem posts_l0 (l : List S36) (hl : l.length ≤ 1000000) : ∀ (m i k : Nat), i + m = l.length → m < k → find_mapOf_posts.l0 k (l.take i) (asPosts l) (l.length : Int) (i : Int) = some l := by
  intro m
  induction m with
  | zero =>
    intro i k hi hk
    obtain ⟨k, rfl⟩ : ∃ j, k = j + 1 := ⟨k - 1, by omega⟩
    rw [find_mapOf_posts.l0, if_neg (by omega), List.take_of_length_le (by omega)]
  | succ m ih =>
    intro i k hi hk
    obtain ⟨k, rfl⟩ : ∃ j, k = j + 1 := ⟨k - 1, by omega⟩
    have hlt : i < l.length := by omega
    have hrd : (rd_T81 (asPosts l) (i : Int)).f0 = l[i] := by
      unfold rd_T81 asPosts
      simp [List.getD_eq_getElem?_getD, List.getElem?_eq_getElem hlt]
    have ih2 := ih (i + 1) k (by omega) (by omega)
    rw [List.take_succ_eq_append_getElem hlt] at ih2
    rw [find_mapOf_posts.l0, if_pos (by omega), if_pos (by omega), if_pos (by rw [asPosts_len]; omega), if_pos (by rw [List.length_take]; omega), hrd, show wrap64 ((i : Int) + 1) = ((i + 1 : Nat) : Int) by unfold wrap64; omega]
    exact ih2
theorem posts_f (l : List S36) (hl : l.length ≤ 1000000) : find_mapOf_posts.f (l.length + 1) (asPosts l) = some l := by
  unfold find_mapOf_posts.f
  rw [asPosts_len]
  exact posts_l0 l hl l.length 0 _ (by omega) (by omega)
theorem heap_post : Kd.Heap k81 := Kd.heap_iso _ (Kd.heap_iso _ (Kd.heap_pair Kd.heap_bool (Kd.heap_pair (Kd.heap_slice 31 (Kd.heap_iso _ (Kd.heap_pair (Kd.heap_int .i64) (Kd.heap_pair (Kd.heap_int .i64) (Kd.heap_int .i64))))) (Kd.heap_slice 31 (Kd.heap_iso _ (Kd.heap_pair (Kd.heap_int .i64) (Kd.heap_pair (Kd.heap_int .i64) (Kd.heap_int .i64))))))))
theorem posts_any (A : Option Addr) (n c : Nat) (l : List S36) (w : World) (hn : n = l.length) (hr : Kd.C k36 w A n l) (hc : n ≤ c) (hl : l.length ≤ 1000000) :
    Calls Try.prog 59 #[.slice A n c] w fun e w' => ∃ A2 c2, e = .returned (.slice A2 l.length c2) ∧ l.length ≤ c2 ∧ Kd.C k36 w' A2 l.length l ∧ Below w.heap.size w w' := by
  subst hn
  have hC := C_posts hr
  rw [← asPosts_len l] at hC hc ⊢
  refine (find_mapOf_posts.calls (l.length + 1) (fun _ => True) A c (asPosts l) l w (Kd.V_mono (Kd.V_mk hc (Kd.C_F heap_post hC)) (fun _ _ => trivial)) (posts_f l hl)).mono ?_
  rintro e w' ⟨v, rfl, hN, hB⟩
  obtain ⟨A2, c2, rfl, h2, hC2⟩ := Kd.N_reads hN
  rw [asPosts_len]
  exact ⟨A2, c2, rfl, h2, hC2, hB⟩
/-- which hints are right by themselves -/
def listR (places : Int) : Option Int → List S31 → Bool
  | _, [] => true
  | last, h :: l => decide (1 ≤ h.f0) && (match last with | none => true | some p => decide (p < h.f0)) && decide (0 ≤ h.f2 ∧ h.f2 ≤ 1099511627776) && decide (0 ≤ h.f1 ∧ h.f1 < places) && listR places (some h.f0) l
def listF (l : List S31) (places : Int) : Bool := decide (l.length ≤ 4000) && listR places none l
end Go.Proofs.Ytjnceoohlcchnaa.Print

/-! Where an object is. -/
namespace Go.Proofs.Ytjnceoohlcchnaa.Print
open Go Go.RowKit Go.Deep Go.Proofs.YtjnceoohlcchnaaW.PrintWords Go.Proofs.YtjnceoohlcchnaaW.PrintLast Go.Proofs.YtjnceoohlcchnaaW.PrintMore

def whereL : List S36 → Int → S31 × Bool
  | [], _ => (⟨0, 0, 0⟩, false)
  | p :: l, oid => if atB p.f1 oid = true then (lookL p.f1 oid, true) else whereL l oid
def WhRel (w : World) (g : Nat) (l : List S36) (oid : Int) (u12 : Value) (wr : World) : Prop :=
  ∃ i : Nat, u12 = .int .i64 i ∧ i ≤ l.length ∧ Aside0 (whereL (l.drop i) oid = whereL l oid) ∧ Aside0 (wr.heap[g]? = some (.cells #[.int .i64 0, .int .i64 0, .int .i64 0] 31 (0, 0))) ∧ Aside0 (Below w.heap.size w wr)
set_option maxRecDepth 100000 in
set_option maxHeartbeats 4000000 in
theorem where_any (A : Option Addr) (n c : Nat) (l : List S36) (oid : Int) (w : World) (hn : n = l.length) (hr : Kd.C k36 w A l.length l) (hc : n ≤ c) (hl : Short l) :
    Calls Try.prog 58 #[.slice A n c, .int .i64 oid] w fun e w' => e = .returned (.tuple #[hintV (whereL l oid).1, .bool (whereL l oid).2]) ∧ Below w.heap.size w w' := by
  subst hn
  have HR := Aside0.mk hr
  have HS := Aside0.mk hl
  have hl6 := hl.1
  clear hr hl
  go_enter Try.func58, Try.ntmps58
  go_upto_region 1 with fail
  obtain ⟨g, hg⟩ : ∃ g, g = w.heap.size := ⟨_, rfl⟩
  rw [← hg]
  obtain ⟨w1, hw1⟩ : ∃ w1, w1 = w.alloc (Obj.cells #[Value.int IntKind.i64 0, Value.int IntKind.i64 0, Value.int IntKind.i64 0] 31) := ⟨_, rfl⟩
  rw [← hw1]
  have HB1 : Aside0 (Below w.heap.size w w1) := ⟨by rw [hw1]; exact below_alloc (Below.refl _ _) _⟩
  have HQ1 : Aside0 (w1.heap[g]? = some (.cells #[.int .i64 0, .int .i64 0, .int .i64 0] 31 (0, 0))) := ⟨by rw [hw1, hg]; exact heap_alloc_new _ _⟩
  have HG := Aside0.mk hg
  clear hw1 hg
  go_wp2_with fail
  go_loopw [12] (fun u12 wr => WhRel w g l oid u12 wr) (fun u12 _ => l.length - (intOf u12).toNat)
  case atStart => exact ⟨0, rfl, Nat.zero_le _, ⟨rfl⟩, HQ1, HB1⟩
  case round =>
    obtain ⟨i, rfl, hi, HE, HQ, HB⟩ := hrel
    have hgB : w.heap.size ≤ g := by rw [HG.out]; exact Nat.le_refl _
    by_cases hlt : i < l.length
    rotate_left
    · have hd : decide (i < l.length) = false := decide_eq_false hlt
      have HE2 : Aside0 (whereL l oid = (⟨0, 0, 0⟩, false)) := ⟨by rw [← HE.out, List.drop_of_length_le (by omega)]; rfl⟩
      obtain ⟨k0, k1, k2, f0, f1, f2⟩ := blk3 HQ.out
      have hu := Try.underlying31
      iterate 60 (try (first | go_skip | go_guarded | go_step | go_upon | go_values))
      refine bodyPost_ret (results_ct rfl _ _ g 31 #[.int .i64 0, .int .i64 0, .int .i64 0] (0, 0) _ rfl (blk_store3 HQ.out _ _ _) Try.underlying31 rfl (by kernel_rfl)) rfl ?_
      exact ⟨by rw [HE2.out]; rfl, below_store3 HB.out hgB _ _ _⟩
    have hd : decide (i < l.length) = true := decide_eq_true hlt
    obtain ⟨ad, x, A1, c1, A2, c2, rfl, hx, p0, p1, p2, hc1, hC1, hc2, hC2⟩ := post_at (Kd.C_below HR.out HB.out) i hlt
    have HX := Aside0.mk (And.intro hx hC1)
    have hl1 := (HS.out.2 x (List.mem_of_getElem? hx)).1
    have hst : whereL l oid = if atB x.f1 oid = true then (lookL x.f1 oid, true) else whereL (l.drop (i + 1)) oid := by
      obtain ⟨hil, e⟩ := List.getElem?_eq_some_iff.1 hx
      rw [← HE.out, List.drop_eq_getElem_cons hil, whereL, e]
    have HST := Aside0.mk hst
    clear hx hC1 hC2 hst HE
    have hu := Try.underlying81
    go_upto_region 4 with fail
    obtain ⟨gp, hgp⟩ : ∃ g, g = wr.heap.size := ⟨_, rfl⟩
    obtain ⟨W, hW⟩ : ∃ W, W = wr.alloc (Obj.cells #[Value.bool x.f0, Value.slice A1 x.f1.length c1, Value.slice A2 x.f2.length c2] 81) := ⟨_, rfl⟩
    rw [← hW, ← hgp]
    have hBW : Below wr.heap.size wr W := by rw [hW]; exact below_alloc (Below.refl _ _) _
    have HP : Aside0 (W.heap[gp]? = some (.cells #[.bool x.f0, .slice A1 x.f1.length c1, .slice A2 x.f2.length c2] 81 (0, 0))) := ⟨by rw [hW, hgp]; exact heap_alloc_new _ _⟩
    have HC1 := Aside0.mk (Kd.C_below HX.out.2 hBW)
    replace HQ := Aside0.mk (blk_below HQ.out hBW)
    have HBW : Aside0 (Below w.heap.size w W) := ⟨HB.out.trans (hBW.mono HB.out.size)⟩
    clear hW hgp hBW HB HX p0 p1 p2
    obtain ⟨k0, k1, k2, f0, f1, f2⟩ := blk3 HP.out
    go_wp2_with fail
    refine (has_any x.f0 A1 x.f1.length c1 A2 x.f2.length c2 x.f1 oid W rfl HC1.out hc1 hl1).mono ?_
    rintro e w2 ⟨rfl, hB⟩
    replace HQ := Aside0.mk (blk_below HQ.out hB)
    have HB2 : Aside0 (Below w.heap.size w w2) := ⟨HBW.out.trans (hB.mono HBW.out.size)⟩
    clear hB HP HBW HC1 k0 k1 k2 f0 f1 f2
    have hu2 := Try.underlying31
    obtain ⟨y, hy⟩ : ∃ y, y = lookL x.f1 oid := ⟨_, rfl⟩
    rw [← hy]
    have HY := Aside0.mk hy
    clear hy
    unfold hintV
    by_cases hb : atB x.f1 oid = true
    · rw [hb]
      have HE2 : Aside0 (whereL l oid = (y, true)) := ⟨by rw [HST.out, if_pos hb, HY.out]⟩
      clear hb HST
      obtain ⟨w3, hw3⟩ : ∃ w3, w3 = w2.alloc (Obj.cells #[Value.int IntKind.i64 y.f0, Value.int IntKind.i64 y.f1, Value.int IntKind.i64 y.f2] 31) := ⟨_, rfl⟩
      have hB3 : Below w2.heap.size w2 w3 := by rw [hw3]; exact below_alloc (Below.refl _ _) _
      have HQ3 := Aside0.mk (blk_below HQ.out hB3)
      have HB3 : Aside0 (Below w.heap.size w w3) := ⟨HB2.out.trans (hB3.mono HB2.out.size)⟩
      have HN3 : Aside0 (w3.heap[w2.heap.size]? = some (.cells #[.int .i64 y.f0, .int .i64 y.f1, .int .i64 y.f2] 31 (0, 0))) := ⟨by rw [hw3]; exact heap_alloc_new _ _⟩
      go_upto_region 6 with fail
      rw [← hw3]
      obtain ⟨gy, hgy⟩ : ∃ gy, gy = w2.heap.size := ⟨_, rfl⟩
      rw [← hgy]
      rw [← hgy] at HN3
      clear hw3 hB3 HQ HB2 hgy
      obtain ⟨k0, k1, k2, f0, f1, f2⟩ := blk3 HQ3.out
      obtain ⟨q0, q1, q2, e0, e1, e2⟩ := blk3 HN3.out
      iterate 60 (try (first | go_skip | go_guarded | go_step | go_upon | go_values))
      refine bodyPost_ret (results_ct rfl _ _ g 31 #[.int .i64 y.f0, .int .i64 y.f1, .int .i64 y.f2] (0, 0) _ rfl (blk_store3 HQ3.out _ _ _) Try.underlying31 rfl (by kernel_rfl)) rfl ?_
      exact ⟨by rw [HE2.out]; rfl, below_store3 HB3.out hgB _ _ _⟩
    · have hb2 : atB x.f1 oid = false := by simpa using hb
      rw [hb2]
      have HE2 : Aside0 (whereL (l.drop (i + 1)) oid = whereL l oid) := ⟨by rw [HST.out, if_neg hb]⟩
      clear hb hb2 HST
      go_wp2_with fail
      go_roundw
      case measure => simp [intOf]; omega
      case rel => exact ⟨i + 1, by go_num, by omega, HE2, ⟨blk_alloc HQ.out _⟩, ⟨below_alloc HB2.out _⟩⟩
end Go.Proofs.Ytjnceoohlcchnaa.Print

/-! Whether places are some of a map. -/
namespace Go.Proofs.Ytjnceoohlcchnaa.Print
open Go Go.RowKit Go.Deep Go.Proofs.YtjnceoohlcchnaaW.PrintWords Go.Proofs.YtjnceoohlcchnaaW.PrintLast Go.Proofs.YtjnceoohlcchnaaW.PrintMore

def offP (n : Int) (p : Int) : Bool := decide (p < 0) || decide (n ≤ p)
set_option maxRecDepth 100000 in
theorem off_any (p : Int) (A : Option Addr) (n c g : Nat) (w : World) (hg : w.cell? ⟨g, 0, none⟩ = some (.slice A n c)) : Calls Try.prog 91 #[.int .i64 p, .pointer (some ⟨g, 0, none⟩)] w fun e w' => e = .returned (.bool (offP n p)) ∧ Below w.heap.size w w' := by
  have hgd : ∀ m, (w.drewN m).cell? ⟨g, 0, none⟩ = some (.slice A n c) := fun _ => hg
  unfold offP
  by_cases h1 : p < 0
  · rw [decide_eq_true h1, Bool.true_or]
    have d1 : decide (p < 0) = true := decide_eq_true h1
    go_enter Try.func91, Try.ntmps91
    go_wp2_with fail
    go_returns
    exact ⟨rfl, Below.refl _ _⟩
  · rw [decide_eq_false h1, Bool.false_or]
    have d1 : decide (p < 0) = false := decide_eq_false h1
    go_enter Try.func91, Try.ntmps91
    go_wp2_with fail
    go_returns
    exact ⟨rfl, Below.refl _ _⟩
theorem int_at {w : World} {A : Option Addr} {l : List Int} (h : Kd.C (Kd.int .i64) w A l.length l) (i : Nat) (hi : i < l.length) : ∃ ad x, A = some ad ∧ l[i]? = some x ∧ w.cell? (ad.add i) = some (.int .i64 x) := by
  obtain ⟨ad, e, h0⟩ := Kd.at_int h (i : Int) (by omega) (by omega)
  refine ⟨ad, l[i], e, List.getElem?_eq_getElem hi, ?_⟩
  have hx : rd l (i : Int) = l[i] := by
    unfold rd
    simp [List.getD_eq_getElem?_getD, List.getElem?_eq_getElem hi]
  rw [hx] at h0
  simpa using h0
def AnRel (w : World) (q : Int → Bool) (l : List Int) (u8 : Value) (wr : World) : Prop :=
  ∃ i : Nat, u8 = .int .i64 i ∧ i ≤ l.length ∧ Aside0 ((l.take i).any q = false) ∧ Aside0 (Below w.heap.size w wr)
set_option maxRecDepth 100000 in
theorem index_ints (A : Option Addr) (c : Nat) (l : List Int) (A1 : Option Addr) (n1 c1 g : Nat) (w : World) (hg : w.cell? ⟨g, 0, none⟩ = some (.slice A1 n1 c1)) (hr : Kd.C (Kd.int .i64) w A l.length l) (hc : l.length ≤ c) (hl : l.length ≤ 1000000) :
    Calls Try.prog 104 #[.slice A l.length c, .func (.func 91) #[] #[.pointer (some ⟨g, 0, none⟩)]] w fun e w' => ∃ r : Int, e = .returned (.int .i64 r) ∧ decide (0 ≤ r) = l.any (offP n1) ∧ Below w.heap.size w w' := by
  have HR := Aside0.mk hr
  have HG := Aside0.mk hg
  have eg : ∀ args w, (callFunc 91 args).run Try.prog w = .ok (.enter 91 args) w := fun _ _ => rfl
  clear hr hg
  go_enter Try.func104, Try.ntmps104
  go_wp2_with fail
  go_loopw [8] (fun u8 wr => AnRel w (offP n1) l u8 wr) (fun u8 _ => l.length - (intOf u8).toNat)
  case atStart => exact ⟨0, rfl, Nat.zero_le _, ⟨rfl⟩, ⟨Below.refl _ _⟩⟩
  case round =>
    obtain ⟨i, rfl, hi, HE, HB⟩ := hrel
    by_cases hlt : i < l.length
    rotate_left
    · have hd : decide (i < l.length) = false := decide_eq_false hlt
      have HE2 : Aside0 (l.any (offP n1) = false) := ⟨by have h := HE.out; rwa [List.take_of_length_le (by omega)] at h⟩
      go_wp2_with fail
      go_returns
      exact ⟨-1, rfl, by rw [HE2.out]; rfl, HB.out⟩
    have hd : decide (i < l.length) = true := decide_eq_true hlt
    obtain ⟨ad, x, rfl, hx, p0⟩ := int_at (Kd.C_below HR.out HB.out) i hlt
    have hgr := (HB.out.cell (World.block_lt_of_cell? w _ HG.out)).trans HG.out
    have HX := Aside0.mk hx
    clear hx
    go_wp2_with fail
    refine (off_any x A1 n1 c1 g wr hgr).mono ?_
    rintro e w2 ⟨rfl, hB⟩
    have HB2 : Aside0 (Below w.heap.size w w2) := ⟨HB.out.trans (hB.mono HB.out.size)⟩
    clear hB
    by_cases hb : offP (n1 : Int) x = true
    · rw [hb]
      have HE2 : Aside0 (l.any (offP n1) = true) := ⟨List.any_eq_true.2 ⟨x, List.mem_of_getElem? HX.out, hb⟩⟩
      clear hb
      go_wp2_with fail
      go_returns
      exact ⟨i, rfl, by rw [HE2.out]; simp, HB2.out⟩
    · have hb2 : offP (n1 : Int) x = false := by simpa using hb
      rw [hb2]
      have HE2 : Aside0 ((l.take (i + 1)).any (offP n1) = false) := ⟨by rw [List.take_add_one, HX.out, List.any_append, HE.out]; simp [hb2]⟩
      clear hb hb2
      go_wp2_with fail
      go_roundw
      case measure => simp [intOf]; omega
      case rel => exact ⟨i + 1, by go_num, by omega, HE2, HB2⟩
theorem contains_ints (A : Option Addr) (c : Nat) (l : List Int) (A1 : Option Addr) (n1 c1 g : Nat) (w : World) (hg : w.cell? ⟨g, 0, none⟩ = some (.slice A1 n1 c1)) (hr : Kd.C (Kd.int .i64) w A l.length l) (hc : l.length ≤ c) (hl : l.length ≤ 1000000) :
    Calls Try.prog 90 #[.slice A l.length c, .func (.func 91) #[] #[.pointer (some ⟨g, 0, none⟩)]] w fun e w' => e = .returned (.bool (l.any (offP n1))) ∧ Below w.heap.size w w' := by
  have HR := Aside0.mk hr
  have HG := Aside0.mk hg
  clear hr hg
  go_enter Try.func90, Try.ntmps90
  go_wp2_with fail
  refine (index_ints A c l A1 n1 c1 g w HG.out HR.out hc hl).mono ?_
  rintro e w' ⟨r, rfl, hq, hB⟩
  have HQ := Aside0.mk hq
  clear hq
  go_wp2_with fail
  go_returns
  exact ⟨by rw [← HQ.out]; rfl, hB⟩
end Go.Proofs.Ytjnceoohlcchnaa.Print

/-! Maps whose keys are asked for, one by one: pairs of numbers. -/
namespace Go.Proofs.Ytjnceoohlcchnaa.Print
open Go Go.RowKit Go.MapKept Go.Proofs.YtjnceoohlcchnaaW.PrintWords

structure FindEnc (P : Program) (kt : TypeId) (κ : Type) [DecidableEq κ] (enc : κ → Value) : Prop where
  find : ∀ (k : κ) (es : List MapEntry) (m : List (κ × Value)) (w : World), es.map (fun e => (e.key, e.val)) = m.map (fun p => (enc p.1, p.2)) → (Instr.findKey kt (enc k) es).run P w = .ok ((mget m k).map fun v => (m.findIdx (fun p => decide (k = p.1)), v)) w
  chk : ∀ empty a w, (Instr.checkKey empty 10000 kt (enc a)).run P w = .ok () w
  bits : ∀ a, Instr.sameBits 10000 (enc a) (enc a) = true
section
variable {P : Program} {kt t e : TypeId} {κ : Type} [DecidableEq κ] {enc : κ → Value} {w w1 : World} {b : Nat} {m : List (κ × Value)}
theorem run_lookup_any (K : FindEnc P kt κ enc) (ht : P.underlying t = some (.map kt e)) (h : MapAt enc w b m) (k : κ) {z : Value} (hz : (zeroValue e).run P w = .ok z w) :
    (Instr.lookup t (.map (some b)) (enc k) true).run P w = .ok (.tuple #[(mget m k).getD z, .bool (mget m k).isSome]) w := by
  obtain ⟨es, c, hb, hm⟩ := h
  have hf := K.find k es.toList m w hm
  simp only [Instr.lookup]
  simp [run_underlying ht, MapKept.run_getObj_map hb, K.chk, hf, Result.andThen]
  cases hg : mget m k with
  | none => simp [hz, Result.andThen]
  | some v => simp [Result.andThen]
theorem run_update_any (K : FindEnc P kt κ enc) (ht : P.underlying t = some (.map kt e)) (h : MapAt enc w b m) (k : κ) (v : Value) :
    ∃ w', (Instr.mapUpdate t (.map (some b)) (enc k) v).run P w = .ok () w' ∧ MapAt enc w' b (mput m k v) ∧ w.grownBy w' (some b) := by
  obtain ⟨es, c, hb, hm⟩ := h
  have hf := K.find k es.toList m w hm
  have hgr : ∀ o : Obj, w.grownBy (Go.ChangeMaps.setBlock w b o) (some b) := fun o => ⟨rfl, rfl, rfl, by simp [Go.ChangeMaps.setBlock], fun i _ hi => Go.ChangeMaps.heap_setBlock_other hb _ (fun e => hi (by rw [e]))⟩
  cases hg : mget m k with
  | none =>
    rw [hg] at hf
    refine ⟨Go.ChangeMaps.setBlock w b (.map (es.push { key := enc k, val := v, born := c }) (c + 1)), ?_, ⟨_, _, Go.ChangeMaps.heap_setBlock_same hb _, ?_⟩, hgr _⟩
    · simp only [Instr.mapUpdate]
      simp [run_underlying ht, MapKept.run_getObj_map hb, K.chk, hf, Result.andThen, MapKept.run_setObj_map _ hb]
      rfl
    · rw [mput_none m k v hg]; simp [hm]
  | some u =>
    rw [hg] at hf
    obtain ⟨p, hp1, hp2⟩ := findIdx_lt m k hg
    have hp3 : (es.toList.map (fun e => (e.key, e.val)))[m.findIdx (fun p => decide (k = p.1))]? = some (enc p.1, p.2) := by rw [hm, List.getElem?_map, hp1]; rfl
    rw [List.getElem?_map] at hp3
    obtain ⟨en, he1, he2⟩ := Option.map_eq_some_iff.1 hp3
    have hk1 : en.key = enc k := by rw [← hp2]; exact congrArg Prod.fst he2
    have he1' : es[m.findIdx (fun p => decide (k = p.1))]? = some en := by simpa using he1
    have hst : (Instr.keyThatStays (enc k) (enc k)).run P w = .ok (enc k) w := by simp [Instr.keyThatStays, K.bits]
    refine ⟨Go.ChangeMaps.setBlock w b (.map (es.modify (m.findIdx (fun p => decide (k = p.1))) fun e => { e with key := enc k, val := v }) c), ?_, ⟨_, _, Go.ChangeMaps.heap_setBlock_same hb _, ?_⟩, hgr _⟩
    · simp only [Instr.mapUpdate]
      simp [run_underlying ht, MapKept.run_getObj_map hb, K.chk, hf, Result.andThen, MapKept.run_setObj_map _ hb, he1', hk1, hst]
      rfl
    · rw [mput_some m k v hg, ← hm]
      simp only [Array.toList_modify]
      apply List.ext_getElem?
      intro i
      simp only [List.getElem?_map, List.getElem?_modify]
      split <;> simp_all <;> cases es[i]? <;> rfl
theorem ask_map (heq : ∀ (a b : κ) (w : World), (Op.equal kt (enc a) (enc b)).run P w = .ok (decide (a = b)) w) (k : κ) :
    ∀ (es : List MapEntry) (m : List (κ × Value)) (i : Nat) (w : World), es.map (fun e => (e.key, e.val)) = m.map (fun p => (enc p.1, p.2)) →
      (Instr.findAsking kt (enc k) es i).run P w = .ok ((mget m k).map fun v => (i + m.findIdx (fun p => decide (k = p.1)), v)) w
  | [], m, i, w, h => by
    have : m = [] := by cases m with | nil => rfl | cons _ _ => simp at h
    subst this
    simp [Instr.findAsking, mget]
  | e :: es, m, i, w, h => by
    cases m with
    | nil => simp at h
    | cons p m =>
      obtain ⟨k', v'⟩ := p
      simp only [List.map_cons, List.cons.injEq, Prod.mk.injEq] at h
      obtain ⟨⟨h1, h2⟩, h3⟩ := h
      by_cases hk : k = k'
      · subst hk
        simp [Instr.findAsking, h1, heq, mget, h2, List.findIdx_cons]
      · have ih := ask_map heq k es m (i + 1) w h3
        simp only [Instr.findAsking, h1, Sem.run_bind, heq, Result.andThen_ok, hk, decide_false, Bool.false_eq_true, if_false, ih]
        simp only [mget, List.find?_cons, hk, decide_false, List.findIdx_cons, cond_false]
        congr 1
        cases (List.find? (fun p => decide (k = p.1)) m) <;> simp; omega
end
/-- pairs of numbers as keys -/
def kMom (k : Int × Int) : Value := .agg #[.int .i64 k.1, .int .i64 k.2]
theorem eq_int (d : Nat) (t : TypeId) (a b : Int) (w : World) (h : Try.prog.underlying t = some (.int .i64)) : (Op.equalIn (d + 1) t (.int .i64 a) (.int .i64 b)).run Try.prog w = .ok (a == b) w := by
  simp [Op.equalIn, run_underlying h]
theorem eq_mom (a b : Int × Int) (w : World) : (Op.equal 119 (kMom a) (kMom b)).run Try.prog w = .ok (decide (a = b)) w := by
  have h := eqA_of (d := 9999) (xs := #[.int .i64 a.1, .int .i64 a.2]) (ys := #[.int .i64 b.1, .int .i64 b.2]) (w := w) Try.underlying119 (by kernel_rfl) (r := (a.1 == b.1) && (a.2 == b.2))
    (eqf_cons (a := .int .i64 a.1) (b := .int .i64 b.1) (by rfl) (run_part_plain w (by kernel_rfl) rfl) (run_part_plain w (by kernel_rfl) rfl) (eq_int _ _ _ _ _ Try.underlying3)
      (eqf_last (a := .int .i64 a.2) (b := .int .i64 b.2) (by rfl) (run_part_plain w (by kernel_rfl) rfl) (run_part_plain w (by kernel_rfl) rfl) (eq_int _ _ _ _ _ Try.underlying3)))
  have e : decide (a = b) = ((a.1 == b.1) && (a.2 == b.2)) := by
    obtain ⟨a1, a2⟩ := a
    obtain ⟨b1, b2⟩ := b
    by_cases h1 : a1 = b1 <;> by_cases h2 : a2 = b2 <;> simp [h1, h2]
  rw [e]
  exact h
theorem chk_mom (empty : Bool) (a : Int × Int) (w : World) : (Instr.checkKey empty 10000 119 (kMom a)).run Try.prog w = .ok () w := by
  have h1 : ∀ n x, (Instr.checkKey empty (n + 1) 3 (.int .i64 x)).run Try.prog w = .ok () w := fun n x => chk_int Try.underlying3 empty x w n
  have p0 : (part 3 #[Value.int .i64 a.1, Value.int .i64 a.2] 0).run Try.prog w = .ok (.int .i64 a.1) w := run_part_plain w (by kernel_rfl) rfl
  have p1 : (part 3 #[Value.int .i64 a.1, Value.int .i64 a.2] 1).run Try.prog w = .ok (.int .i64 a.2) w := run_part_plain w (by kernel_rfl) rfl
  rw [show (10000 : Nat) = 9999 + 1 from rfl]
  unfold Instr.checkKey kMom
  simp only [Sem.run_bind, run_underlying Try.underlying119, Result.andThen_ok]
  rw [← Array.forIn_toList]
  simp [p0, p1, h1, Result.andThen]
theorem mom_enc : FindEnc Try.prog 119 (Int × Int) kMom where
  find := fun k es m w h => by
    have e := run_findKey_eq (P := Try.prog) (w := w) (k := 119) (by kernel_rfl) (kMom k) es
    rw [e]
    have := ask_map eq_mom k es m 0 w h
    simpa using this
  chk := chk_mom
  bits := fun a => by simp [kMom, Instr.sameBits]
theorem find_of_key {P : Program} {kt : TypeId} {κ : Type} [DecidableEq κ] {enc : κ → Value} (K : KeyEnc P kt κ enc) : FindEnc P kt κ enc where
  find := fun k es m w h => by
    obtain ⟨d, hd, hs⟩ := K.same
    have hf := findNow_map hs k es m 0 h
    simp [Instr.findKey, run_underlying hd, hf]
  chk := K.chk
  bits := K.bits
end Go.Proofs.Ytjnceoohlcchnaa.Print

/-! Which lists are right, and which maps: what is computed. -/
namespace Go.Proofs.Ytjnceoohlcchnaa.Print
open Go Go.RowKit Go.Deep Go.Proofs.YtjnceoohlcchnaaW.PrintWords Go.Proofs.YtjnceoohlcchnaaW.PrintLast Go.Proofs.YtjnceoohlcchnaaW.PrintMore

theorem listR_nil (p : Int) (o : Option Int) : listR p o [] = true := by cases o <;> rfl
theorem listR_cons (p : Int) (last : Option Int) (h : S31) (l : List S31) : listR p last (h :: l) = (decide (1 ≤ h.f0) && (match last with | none => true | some q => decide (q < h.f0)) && decide (0 ≤ h.f2 ∧ h.f2 ≤ 1099511627776) && decide (0 ≤ h.f1 ∧ h.f1 < p) && listR p (some h.f0) l) := by cases last <;> rfl
theorem rdH (l : List S31) (i : Nat) (h : i < l.length) : rd_T31 l (i : Int) = l[i] := by
  unfold rd_T31
  simp [List.getD_eq_getElem?_getD, List.getElem?_eq_getElem h]
def lastOf (l : List S31) (i : Nat) : Option Int := if i = 0 then none else (l[i - 1]?).map (·.f0)
theorem last_succ (l : List S31) (i : Nat) (h : i < l.length) : lastOf l (i + 1) = some l[i].f0 := by
  unfold lastOf
  rw [if_neg (by omega), Nat.add_sub_cancel, List.getElem?_eq_getElem h]
  rfl
theorem listed_l0 (l : List S31) (p : Int) (hl : l.length ≤ 9223372036854775807) : ∀ (m i k : Nat), i + m = l.length → m < k → find_listed.l0 k l p l (l.length : Int) (i : Int) = some (listR p (lastOf l i) (l.drop i)) := by
  intro m
  induction m with
  | zero =>
    intro i k hi hk
    obtain ⟨k, rfl⟩ : ∃ j, k = j + 1 := ⟨k - 1, by omega⟩
    rw [find_listed.l0, if_neg (by omega), List.drop_of_length_le (by omega), listR_nil]
  | succ m ih =>
    intro i k hi hk
    obtain ⟨k, rfl⟩ : ∃ j, k = j + 1 := ⟨k - 1, by omega⟩
    have hlt : i < l.length := by omega
    have ih2 := ih (i + 1) k (by omega) (by omega)
    rw [last_succ l i hlt] at ih2
    rw [find_listed.l0, if_pos (by omega), if_pos (by omega), if_pos (by omega), rdH l i hlt, show wrap64 ((i : Int) + 1) = ((i + 1 : Nat) : Int) by unfold wrap64; omega, ih2, List.drop_eq_getElem_cons hlt, listR_cons]
    obtain ⟨h, hh⟩ : ∃ h, h = l[i] := ⟨_, rfl⟩
    rw [← hh]
    clear ih2 ih
    obtain ⟨r, hr⟩ : ∃ r, r = listR p (some h.f0) (l.drop (i + 1)) := ⟨_, rfl⟩
    rw [← hr]
    have rest : (if h.f2 < 0 then some false else if h.f2 > 1099511627776 then some false else if h.f1 < 0 then some false else if h.f1 ≥ p then some false else some r) = some (decide (0 ≤ h.f2 ∧ h.f2 ≤ 1099511627776) && decide (0 ≤ h.f1 ∧ h.f1 < p) && r) := by
      by_cases a1 : h.f2 < 0
      · rw [if_pos a1, decide_eq_false (by omega)]; rfl
      rw [if_neg a1]
      by_cases a2 : h.f2 > 1099511627776
      · rw [if_pos a2, decide_eq_false (by omega)]; rfl
      rw [if_neg a2, decide_eq_true (by omega : 0 ≤ h.f2 ∧ h.f2 ≤ 1099511627776), Bool.true_and]
      by_cases a3 : h.f1 < 0
      · rw [if_pos a3, decide_eq_false (by omega)]; rfl
      rw [if_neg a3]
      by_cases a4 : h.f1 ≥ p
      · rw [if_pos a4, decide_eq_false (by omega)]; rfl
      rw [if_neg a4, decide_eq_true (by omega : 0 ≤ h.f1 ∧ h.f1 < p), Bool.true_and]
    by_cases b1 : h.f0 < 1
    · rw [if_pos b1, decide_eq_false (by omega : ¬ 1 ≤ h.f0)]
      simp
    rw [if_neg b1, decide_eq_true (by omega : 1 ≤ h.f0), Bool.true_and]
    by_cases hi0 : i = 0
    · subst hi0
      rw [if_neg (by omega), rest]
      simp [lastOf]
    · obtain ⟨j, rfl⟩ : ∃ j, i = j + 1 := ⟨i - 1, by omega⟩
      have hj : j < l.length := by omega
      rw [if_pos (by omega), show wrap64 (((j + 1 : Nat) : Int) - 1) = (j : Int) by unfold wrap64; omega, if_pos (by omega), if_pos (by omega), rdH l j hj, last_succ l j hj]
      by_cases b2 : h.f0 ≤ l[j].f0
      · rw [if_pos b2]
        simp only
        rw [decide_eq_false (by omega : ¬ l[j].f0 < h.f0)]
        simp
      · rw [if_neg b2, rest]
        simp only
        rw [decide_eq_true (by omega : l[j].f0 < h.f0), Bool.true_and]
theorem listed_f (l : List S31) (p : Int) (hl : l.length ≤ 9223372036854775807) : find_listed.f (l.length + 1) l p = some (listF l p) := by
  unfold find_listed.f listF
  by_cases h : (l.length : Int) > 4000
  · rw [if_pos h, decide_eq_false (by omega)]; rfl
  · rw [if_neg h, decide_eq_true (by omega), Bool.true_and]
    exact listed_l0 l p hl l.length 0 _ (by omega) (by omega)
theorem listed_any (A : Option Addr) (n c : Nat) (l : List S31) (p : Int) (w : World) (hn : n = l.length) (hr : Kd.C k31 w A l.length l) (hc : n ≤ c) (hl : l.length ≤ 1000000000000) :
    Calls Try.prog 79 #[.slice A n c, .int .i64 p] w fun e w' => e = .returned (.bool (listF l p)) ∧ Below w.heap.size w w' := by
  subst hn
  exact find_listed.calls (l.length + 1) A c l p (listF l p) w hr hc (listed_f l p (by omega))

/-! what valid computes -/
def hasL (i : Int) (hints : List S31) : List S31 → List (Int × S31) → Option (List (Int × S31))
  | [], m => some m
  | h :: l, m => if (mget m h.f0).isSome = true ∨ h.f1 ≠ i then none else if atB hints h.f0 = true then none else hasL i hints l (mput m h.f0 h)
def postOk (places : Int) (x : S36) : Bool := listF x.f1 places && listF x.f2 places && (x.f0 || decide (x.f1.length + x.f2.length = 0))
def hasA (places : Int) : Int → List S36 → List (Int × S31) → Option (List (Int × S31))
  | _, [], m => some m
  | i, x :: l, m => if postOk places x = true then (hasL i x.f2 x.f1 m).bind (hasA places (i + 1) l) else none
def clash (hm : List (Int × S31)) (h : S31) : Bool :=
  match mget hm h.f0 with
  | none => false
  | some x => decide (x.f2 < h.f2) || (decide (x.f2 = h.f2) && !(decide (x.f0 = h.f0) && decide (x.f1 = h.f1)))
def saidL (hm : List (Int × S31)) : List S31 → List ((Int × Int) × Int) → Option (List ((Int × Int) × Int))
  | [], s => some s
  | h :: l, s => if (match mget s (h.f0, h.f2) with | some q => decide (q ≠ h.f1) | none => false) = true then none else if clash hm h = true then none else saidL hm l (mput s (h.f0, h.f2) h.f1)
def saidA (hm : List (Int × S31)) : List S36 → List ((Int × Int) × Int) → Option (List ((Int × Int) × Int))
  | [], s => some s
  | x :: l, s => (saidL hm x.f2 s).bind (saidA hm l)
def validF (l : List S36) (places : Int) : Bool :=
  match hasA places 0 l [] with
  | none => false
  | some hm => (saidA hm l []).isSome
end Go.Proofs.Ytjnceoohlcchnaa.Print
