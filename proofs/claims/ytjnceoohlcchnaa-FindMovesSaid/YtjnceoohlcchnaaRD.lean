/- Messages, what is known, telling: contracts, whatever the input. -/
import Derived.Test.YtjnceoohlcchnaaRC
import Derived.Deep.RegionHeld3
import Derived.Deep.DeepCutAuto
import Derived.Deep.CutBlock
set_option linter.unusedVariables false
set_option linter.unusedSimpArgs false
/-! The rule of messages; the next place. -/
namespace Go.Proofs.Ytjnceoohlcchnaa.Print
open Go Go.RowKit Go.Deep Go.Proofs.YtjnceoohlcchnaaW.PrintWords Go.Proofs.YtjnceoohlcchnaaW.PrintLast Go.Proofs.YtjnceoohlcchnaaW.PrintMore

def messageB (x : S36) (oid time : Int) : Bool := atB x.f2 oid && x.f0 && decide (time < (lookL x.f2 oid).f2)
def messageF (l : List S36) (oid : Int) (i : Nat) (time : Int) : Int × Int :=
  if messageB (postA l i) oid time = true then ((lookL (postA l i).f2 oid).f1, (lookL (postA l i).f2 oid).f2) else ((((i + 1) % l.length : Nat) : Int), time)
theorem postA_some {l : List S36} {i : Nat} {x : S36} (h : l[i]? = some x) : postA l (i : Int) = x := by
  unfold postA
  rw [List.getD_eq_getElem?_getD, Int.toNat_natCast, h]; rfl
set_option maxRecDepth 100000 in
theorem message1_any (B : Option Addr) (cb : Nat) (l : List S36) (oid : Int) (i : Nat) (time : Int) (gm go : Nat) (w : World) (hi : i < l.length) (hm : w.cell? ⟨gm, 0, none⟩ = some (.slice B l.length cb)) (ho : w.cell? ⟨go, 0, none⟩ = some (.int .i64 oid))
    (hr : Kd.C k36 w B l.length l) (hl : Short l) :
    Calls Try.prog 93 #[.int .i64 (i : Int), .int .i64 time, .pointer (some ⟨gm, 0, none⟩), .pointer (some ⟨go, 0, none⟩)] w fun e w' => e = .returned (.tuple #[.int .i64 (messageF l oid i time).1, .int .i64 (messageF l oid i time).2]) ∧ Below w.heap.size w w' := by
  have HR := Aside0.mk hr
  have HS := Aside0.mk hl
  have hl6 := hl.1
  obtain ⟨ad, x, A1, c1, A2, c2, hB, hx, p0, p1, p2, hc1, hC1, hc2, hC2⟩ := post_at hr i hi
  subst hB
  have HX := Aside0.mk hx
  have HC2 := Aside0.mk hC2
  have HV : Aside0 (messageF l oid i time = if messageB x oid time = true then ((lookL x.f2 oid).f1, (lookL x.f2 oid).f2) else ((((i + 1) % l.length : Nat) : Int), time)) := ⟨by unfold messageF; rw [postA_some hx]⟩
  have hs2 : x.f2.length ≤ 1000000000000 := (hl.2 x (List.mem_of_getElem? hx)).2
  clear hr hl hx hC1 hC2
  have hu := Try.underlying81
  have hlt : decide (i < l.length) = true := decide_eq_true hi
  have HM := Aside0.mk (And.intro hm ho)
  have HP := Aside0.mk p0
  have hgm := World.block_lt_of_cell? w _ hm
  have hgo := World.block_lt_of_cell? w _ ho
  have hpb := World.block_lt_of_cell? w _ p0
  have HSB : Aside0 (∀ w', Below w.heap.size w w' → (w'.cell? ⟨gm, 0, none⟩ = some (.slice (some ad) l.length cb) ∧ w'.cell? ⟨go, 0, none⟩ = some (.int .i64 oid) ∧ w'.cell? (ad.add (i * 3)) = some (.bool x.f0) ∧ w'.cell? ⟨(ad.add (i * 3)).block, (ad.add (i * 3)).off + 1, none⟩ = some (.slice A1 x.f1.length c1) ∧ w'.cell? ⟨(ad.add (i * 3)).block, (ad.add (i * 3)).off + 2, none⟩ = some (.slice A2 x.f2.length c2) ∧ Below w.heap.size w w')) :=
    ⟨fun w' hb => ⟨(hb.cell hgm).trans hm, (hb.cell hgo).trans ho, (hb.cell hpb).trans p0, (hb.cell (p := ⟨(ad.add (i * 3)).block, (ad.add (i * 3)).off + 1, none⟩) hpb).trans p1, (hb.cell (p := ⟨(ad.add (i * 3)).block, (ad.add (i * 3)).off + 2, none⟩) hpb).trans p2, hb⟩⟩
  clear hgm hgo hpb
  go_enter Try.func93, Try.ntmps93
  go_upto_region 1 with fail
  go_cut [8, 9] (fun u8 u9 wx => u9 = .bool (atB x.f2 oid) ∧ ∃ gh, u8 = .pointer (some ⟨gh, 0, none⟩) ∧ Aside0 (Below w.heap.size w wx) ∧ Aside0 (wx.heap[gh]? = some (.cells #[.int .i64 (lookL x.f2 oid).f0, .int .i64 (lookL x.f2 oid).f1, .int .i64 (lookL x.f2 oid).f2] 31 (0, 0))))
  case first =>
    clear hm ho p0 p1 p2
    go_region_held3 (fun w' => w'.cell? ⟨gm, 0, none⟩ = some (.slice (some ad) l.length cb) ∧ w'.cell? ⟨go, 0, none⟩ = some (.int .i64 oid) ∧ w'.cell? (ad.add (i * 3)) = some (.bool x.f0) ∧ w'.cell? ⟨(ad.add (i * 3)).block, (ad.add (i * 3)).off + 1, none⟩ = some (.slice A1 x.f1.length c1) ∧ w'.cell? ⟨(ad.add (i * 3)).block, (ad.add (i * 3)).off + 2, none⟩ = some (.slice A2 x.f2.length c2) ∧ Below w.heap.size w w') (exact HSB.out _ (by repeat (first | exact Below.refl _ _ | exact HB2.out | refine below_drew ?_ | refine below_alloc ?_ _ | refine below_set ?_ (by first | exact Nat.le_refl _ | exact HB2.out.size)))) (first | (go_at_call 69; refine (hint_any x.f0 A1 x.f1.length c1 A2 x.f2.length c2 x.f2 oid _ rfl (Kd.C_below HC2.out (by repeat (first | exact Below.refl _ _ | refine below_drew ?_ | refine below_alloc ?_ _))) hc2 hs2).mono ?_; rintro e w2 ⟨rfl, hB⟩; have HB2 : Aside0 (Below w.heap.size w w2) := ⟨below_step (by repeat (first | exact Below.refl _ _ | refine below_drew ?_ | refine below_alloc ?_ _)) hB⟩; (try (have HN : Aside0 (w2.heap[w.heap.size]? = some (.cells #[.int .i64 0, .int .i64 0, .int .i64 0] 31 (0, 0))) := ⟨blk_below (heap_alloc_new w.drew _) hB⟩; obtain ⟨n0, n1, n2, g0, g1, g2⟩ := blk3 HN.out)); clear hB; unfold hintV))
    all_goals
      go_wp2_with fail
      go_meet
      case rel => exact ⟨rfl, _, rfl, ⟨by first | exact HB2.out | exact below_alloc HB2.out _ | exact below_store3 HB2.out (Nat.le_refl _) _ _ _⟩, ⟨by first | exact blk_store3 HN.out _ _ _ | exact heap_alloc_new _ _⟩⟩
  case rest =>
    obtain ⟨rfl, gh, rfl, HB, HN⟩ := hcut
    obtain ⟨y, hy⟩ : ∃ y, y = lookL x.f2 oid := ⟨_, rfl⟩
    obtain ⟨b, hb⟩ : ∃ b, b = atB x.f2 oid := ⟨_, rfl⟩
    obtain ⟨u, hu⟩ : ∃ u, u = x.f0 := ⟨_, rfl⟩
    obtain ⟨s1, s2, s3, s4, s5, s6⟩ := HSB.out _ HB.out
    unfold messageB at HV
    rw [← hy] at HN HV
    rw [← hb, ← hu] at HV
    rw [← hb]
    rw [← hu] at s3
    clear hm ho p0 p1 p2 hy hb hu s2 s6
    obtain ⟨n0, n1, n2, g0, g1, g2⟩ := blk3 HN.out
    cases b with
    | false =>
      go_wp2_with fail
      go_returns
      exact ⟨by rw [HV.out]; simp, HB.out⟩
    | true =>
      cases u with
      | false =>
        go_wp2_with fail
        go_returns
        exact ⟨by rw [HV.out]; simp, HB.out⟩
      | true =>
        by_cases ht : time < y.f2
        · have dt : decide (time < y.f2) = true := decide_eq_true ht
          go_wp2_with fail
          go_region
          all_goals
            go_wp2_with fail
            go_returns
            exact ⟨by rw [HV.out]; simp [dt], by first | exact HB.out | exact below_drew HB.out⟩
        · have dt : decide (time < y.f2) = false := decide_eq_false ht
          go_wp2_with fail
          go_returns
          exact ⟨by rw [HV.out]; simp [dt], HB.out⟩
theorem message_any (B : Option Addr) (n cb : Nat) (oid : Int) (w : World) :
    Calls Try.prog 62 #[.slice B n cb, .int .i64 oid] w fun e w' => ∃ gm go, e = .returned (.func (.func 93) #[] #[.pointer (some ⟨gm, 0, none⟩), .pointer (some ⟨go, 0, none⟩)]) ∧
      w'.heap[gm]? = some (.cells #[.slice B n cb] 74 (0, 0)) ∧ w'.heap[go]? = some (.cells #[.int .i64 oid] 3 (0, 0)) ∧ Below w.heap.size w w' ∧ w.heap.size ≤ go := by
  have hmf : ∀ (fn : Fn) (first cap : Array Value) (w : World), (Instr.makeFunc fn first cap).run Try.prog w = .ok (.func fn first cap) w := fun _ _ _ _ => rfl
  go_enter Try.func62, Try.ntmps62
  go_wp2_with fail
  go_returns
  refine ⟨_, _, rfl, ?_, ?_, below_alloc (below_alloc (Below.refl _ _) _) _, by omega⟩
  · exact blk_alloc (heap_alloc_new _ _) _
  · have h := heap_alloc_new (w.alloc (Obj.cells #[Value.slice B n cb] 74)) (Obj.cells #[Value.int IntKind.i64 oid] 3)
    simpa using h
end Go.Proofs.Ytjnceoohlcchnaa.Print

/-! The next place of a message. -/
namespace Go.Proofs.Ytjnceoohlcchnaa.Print
open Go Go.RowKit Go.Deep Go.Proofs.YtjnceoohlcchnaaW.PrintWords Go.Proofs.YtjnceoohlcchnaaW.PrintLast Go.Proofs.YtjnceoohlcchnaaW.PrintMore

def timeOk (oid time : Int) : Bool := decide (1 ≤ oid) && decide (-1 ≤ time) && decide (time ≤ 1099511627776)
def nextF (l : List S36) (place oid time : Int) : (Int × Int) × Int :=
  if givenC l (timeOk oid time) [place] = 0 then (if atB (postA l place).f1 oid = true then ((0, 0), 3) else (messageF l oid place.toNat time, 0)) else ((0, 0), givenC l (timeOk oid time) [place])
set_option maxRecDepth 100000 in
theorem Next_any (A : Option Addr) (n c : Nat) (l : List S36) (place oid time : Int) (w : World) (hn : n = l.length) (hr : Kd.C k36 w A l.length l) (hc : n ≤ c) (hl : Short l) :
    Calls Try.prog 43 #[.slice A n c, .int .i64 place, .int .i64 oid, .int .i64 time] w fun e w' => e = .returned (.tuple #[.int .i64 (nextF l place oid time).1.1, .int .i64 (nextF l place oid time).1.2, .int .i64 (nextF l place oid time).2]) ∧ Below w.heap.size w w' := by
  subst hn
  have HR := Aside0.mk hr
  have HS := Aside0.mk hl
  have hl6 := hl.1
  clear hr hl
  obtain ⟨b0, h0⟩ : ∃ b, b = decide (1 ≤ oid) := ⟨_, rfl⟩
  obtain ⟨b1, h1⟩ : ∃ b, b = decide (-1 ≤ time) := ⟨_, rfl⟩
  obtain ⟨b2, h2⟩ : ∃ b, b = decide (time ≤ 1099511627776) := ⟨_, rfl⟩
  have HK : Aside0 (timeOk oid time = (b0 && b1 && b2)) := ⟨by unfold timeOk; rw [h0, h1, h2]⟩
  have h0' := h0.symm
  have h1' := h1.symm
  have h2' := h2.symm
  clear h0 h1 h2
  go_enter Try.func43, Try.ntmps43
  go_upto_region 1 with fail
  go_cut [11, 12] (fun u11 u12 wx => ∃ v, u11 = v ∧ u12 = .int .i64 (givenC l (b0 && b1 && b2) [place]) ∧ Aside0 (Below w.heap.size w wx) ∧ Aside0 (givenC l (b0 && b1 && b2) [place] = 0 → Kd.R k36 81 wx w.heap.size (fun _ => True) v l) ∧ Aside0 (givenC l (b0 && b1 && b2) [place] ≠ 0 → v = .slice none 0 0))
  case first =>
    have HG : Aside0 (∀ ok, Calls Try.prog 57 #[.slice A l.length c, .bool ok, .slice (some ⟨w.heap.size, 0, none⟩) 1 1] (w.alloc (Obj.cells #[Value.int IntKind.i64 place] 3)) fun e w' => ∃ v, e = .returned (.tuple #[v, .int .i64 (givenC l ok [place])]) ∧ Below w.heap.size w w' ∧ (givenC l ok [place] = 0 → Kd.R k36 81 w' w.heap.size (fun _ => True) v l) ∧ (givenC l ok [place] ≠ 0 → v = .slice none 0 0)) := ⟨fun ok => by
      have hb := below_alloc (Below.refl w.heap.size w) (Obj.cells #[Value.int IntKind.i64 place] 3)
      refine (given_any A l.length c l ok (some ⟨w.heap.size, 0, none⟩) 1 1 [place] _ rfl (Kd.C_below HR.out hb) hc HS.out rfl (one_ints _ place (heap_alloc_new _ _)) (Nat.le_refl _) (by simp)).mono ?_
      rintro e w2 ⟨v, rfl, hB, hv0, hv1⟩
      exact ⟨v, rfl, below_step hb hB, fun h => Kd.R_lower (hv0 h) hb.size, hv1⟩⟩
    cases b0 <;> cases b1 <;> cases b2
    all_goals
      go_wp2_with fail
      refine (HG.out _).mono ?_
      rintro e w2 ⟨v, rfl, hB, hv0, hv1⟩
      go_wp2_with fail
      go_meet
      case rel => exact ⟨_, rfl, rfl, ⟨hB⟩, ⟨hv0⟩, ⟨hv1⟩⟩
  case rest =>
    obtain ⟨v, rfl, rfl, HB2, HV0, HV1⟩ := hcut
    obtain ⟨ok, hok⟩ : ∃ ok, ok = (b0 && b1 && b2) := ⟨_, rfl⟩
    rw [← hok] at HK HV0 HV1 ⊢
    clear h0' h1' h2' hok
    by_cases hgc : givenC l ok [place] = 0
    rotate_left
    · have HV : Aside0 (nextF l place oid time = ((0, 0), givenC l ok [place])) := ⟨by unfold nextF; rw [HK.out, if_neg hgc]⟩
      obtain ⟨gc, hgc2⟩ : ∃ gc, gc = givenC l ok [place] := ⟨_, rfl⟩
      rw [← hgc2] at hgc HV ⊢
      have dg : (gc != 0) = true := by rw [bne_iff_ne]; exact hgc
      clear hgc hgc2 HV0 HV1
      go_wp2_with fail
      go_returns
      exact ⟨by rw [HV.out]; rfl, HB2.out⟩
    obtain ⟨i, hpi, hil, hx⟩ := given_post hgc
    have HV : Aside0 (nextF l place oid time = if atB (postA l place).f1 oid = true then ((0, 0), 3) else (messageF l oid i time, 0)) := ⟨by unfold nextF; rw [HK.out, if_pos hgc, hpi]; rfl⟩
    obtain ⟨x, hxe⟩ : ∃ x, x = postA l place := ⟨_, rfl⟩
    rw [← hxe] at hx HV
    clear hxe
    subst hpi
    have hR := HV0.out hgc
    rw [hgc]
    obtain ⟨B, cb, rfl, hcb, hC⟩ := Kd.R_reads hR
    obtain ⟨ad, x', A1, c1, A2, c2, rfl, hx', p0, p1, p2, hc1, hC1, hc2, hC2⟩ := post_at hC i hil
    obtain rfl : x' = x := by rw [hx] at hx'; exact (Option.some.inj hx').symm
    have HC := Aside0.mk hC
    have HC1 := Aside0.mk hC1
    have HX := Aside0.mk hx
    have hs1 := (HS.out.2 x' (List.mem_of_getElem? hx)).1
    have hd : decide (i < l.length) = true := decide_eq_true hil
    clear hgc hx hx' hR hC hC1 hC2 HV0 HV1
    go_wp2_with fail
    refine (has_any x'.f0 A1 x'.f1.length c1 A2 x'.f2.length c2 x'.f1 oid _ rfl HC1.out hc1 hs1).mono ?_
    rintro e w3 ⟨rfl, hB⟩
    have HB3 := Aside0.mk (below_step HB2.out hB)
    have HC3 := Aside0.mk (Kd.C_below HC.out hB)
    unfold hintV
    by_cases hb : atB x'.f1 oid = true
    · have HV2 : Aside0 (nextF l i oid time = ((0, 0), 3)) := ⟨by rw [HV.out, if_pos hb]⟩
      rw [hb]
      clear hb hB p0 p1 p2 HV
      go_wp2_with fail
      go_returns
      exact ⟨by rw [HV2.out]; rfl, below_alloc HB3.out _⟩
    · have hb2 : atB x'.f1 oid = false := by simpa using hb
      have HV2 : Aside0 (nextF l i oid time = (messageF l oid i time, 0)) := ⟨by rw [HV.out, if_neg hb]⟩
      rw [hb2]
      clear hb hb2 hB p0 p1 p2 HV
      go_wp2_with fail
      refine (message_any (some ad) l.length cb oid _).mono ?_
      rintro e w4 ⟨gm, go, rfl, hm, ho, hB, _⟩
      have HB4 := Aside0.mk (below_step (below_alloc HB3.out _) hB)
      have HC4 := Aside0.mk (Kd.C_below (Kd.C_alloc HC3.out _) hB)
      have HM := Aside0.mk hm
      have HO := Aside0.mk ho
      clear hm ho hB
      go_wp2_with fail
      have hm0 := blk_cell HM.out 0
      have ho0 := blk_cell HO.out 0
      simp at hm0 ho0
      refine (message1_any (some ad) cb l oid i time gm go _ hil hm0 ho0 HC4.out HS.out).mono ?_
      rintro e w5 ⟨rfl, hB⟩
      have HB5 := Aside0.mk (below_step HB4.out hB)
      clear hB hm0 ho0
      go_wp2_with fail
      go_returns
      exact ⟨by rw [HV2.out]; rfl, HB5.out⟩
end Go.Proofs.Ytjnceoohlcchnaa.Print

/-! What a place knows of an object. -/
namespace Go.Proofs.Ytjnceoohlcchnaa.Print
open Go Go.RowKit Go.Deep Go.Proofs.YtjnceoohlcchnaaW.PrintWords Go.Proofs.YtjnceoohlcchnaaW.PrintLast Go.Proofs.YtjnceoohlcchnaaW.PrintMore

def lookF (l : List S36) (place oid : Int) : S31 × Bool × Int :=
  if givenC l (decide (1 ≤ oid)) [place] = 0 then (if atB (postA l place).f1 oid = true then (lookL (postA l place).f1 oid, true, 0) else if atB (postA l place).f2 oid = true then (lookL (postA l place).f2 oid, false, 0) else (⟨0, 0, 0⟩, false, 3)) else (⟨0, 0, 0⟩, false, givenC l (decide (1 ≤ oid)) [place])
set_option maxRecDepth 100000 in
theorem Look_any (A : Option Addr) (n c : Nat) (l : List S36) (place oid : Int) (w : World) (hn : n = l.length) (hr : Kd.C k36 w A l.length l) (hc : n ≤ c) (hl : Short l) :
    Calls Try.prog 21 #[.slice A n c, .int .i64 place, .int .i64 oid] w fun e w' => e = .returned (.tuple #[hintV (lookF l place oid).1, .bool (lookF l place oid).2.1, .int .i64 (lookF l place oid).2.2]) ∧ Below w.heap.size w w' := by
  subst hn
  have HR := Aside0.mk hr
  have HS := Aside0.mk hl
  have hl6 := hl.1
  clear hr hl
  have hu := Try.underlying31
  have hu2 := Try.underlying81
  go_enter Try.func21, Try.ntmps21
  go_wp2_with fail
  obtain ⟨gr, hgr⟩ : ∃ g, g = w.heap.size := ⟨_, rfl⟩
  obtain ⟨gp, hgp⟩ : ∃ g, g = w.heap.size + 1 := ⟨_, rfl⟩
  obtain ⟨w1, hw1⟩ : ∃ w1, w1 = (w.alloc (Obj.cells #[Value.int IntKind.i64 0, Value.int IntKind.i64 0, Value.int IntKind.i64 0] 31)).alloc (Obj.cells #[Value.int IntKind.i64 place] 3) := ⟨_, rfl⟩
  rw [← hw1, ← hgp, ← hgr]
  have HB1 : Aside0 (Below w.heap.size w w1) := ⟨by rw [hw1]; exact below_alloc (below_alloc (Below.refl _ _) _) _⟩
  have HQ1 : Aside0 (w1.heap[gr]? = some (.cells #[.int .i64 0, .int .i64 0, .int .i64 0] 31 (0, 0))) := ⟨by rw [hw1, hgr]; exact blk_alloc (heap_alloc_new _ _) _⟩
  have HP1 : Aside0 (Kd.C (Kd.int .i64) w1 (some ⟨gp, 0, none⟩) 1 [place]) := ⟨one_ints w1 place (by
    rw [hw1, hgp]
    have h := heap_alloc_new (w.alloc (Obj.cells #[Value.int IntKind.i64 0, Value.int IntKind.i64 0, Value.int IntKind.i64 0] 31)) (Obj.cells #[Value.int IntKind.i64 place] 3)
    simpa using h)⟩
  have HG : Aside0 (w.heap.size ≤ gr) := ⟨by omega⟩
  clear hw1 hgr hgp
  obtain ⟨ok, hok⟩ : ∃ ok, ok = decide (1 ≤ oid) := ⟨_, rfl⟩
  rw [← hok]
  refine (given_any A l.length c l ok (some ⟨gp, 0, none⟩) 1 1 [place] w1 rfl (Kd.C_below HR.out HB1.out) hc HS.out rfl HP1.out (Nat.le_refl _) (by simp)).mono ?_
  rintro e w2 ⟨v, rfl, hB, hv0, hv1⟩
  have HB2 : Aside0 (Below w.heap.size w w2) := ⟨HB1.out.trans (hB.mono HB1.out.size)⟩
  have HQ2 := Aside0.mk (blk_below HQ1.out hB)
  by_cases hgc : givenC l ok [place] = 0
  rotate_left
  · have HV : Aside0 (lookF l place oid = (⟨0, 0, 0⟩, false, givenC l ok [place])) := ⟨by unfold lookF; rw [← hok, if_neg hgc]⟩
    have hv := hv1 hgc
    subst hv
    obtain ⟨gc, hgc2⟩ : ∃ gc, gc = givenC l ok [place] := ⟨_, rfl⟩
    rw [← hgc2] at hgc HV ⊢
    have dg : (gc != 0) = true := by rw [bne_iff_ne]; exact hgc
    clear hgc hgc2 hok hv0 hv1 hB
    obtain ⟨q0, q1, q2, f0, f1, f2⟩ := blk3 HQ2.out
    go_wp2_with fail
    refine bodyPost_ret (results_ctt rfl _ _ gr 31 #[.int .i64 0, .int .i64 0, .int .i64 0] (0, 0) _ rfl (blk_store3 HQ2.out _ _ _) Try.underlying31 rfl (by kernel_rfl)) rfl ?_
    exact ⟨by rw [HV.out]; rfl, below_store3 HB2.out HG.out _ _ _⟩
  obtain ⟨i, hpi, hil, hx⟩ := given_post hgc
  have HV : Aside0 (lookF l place oid = if atB (postA l place).f1 oid = true then (lookL (postA l place).f1 oid, true, 0) else if atB (postA l place).f2 oid = true then (lookL (postA l place).f2 oid, false, 0) else (⟨0, 0, 0⟩, false, 3)) := ⟨by unfold lookF; rw [← hok, if_pos hgc]⟩
  obtain ⟨x, hxe⟩ : ∃ x, x = postA l place := ⟨_, rfl⟩
  rw [← hxe] at hx HV
  clear hxe
  subst hpi
  obtain ⟨B, cb, rfl, hcb, hC⟩ := Kd.R_reads (hv0 hgc)
  rw [hgc]
  have hd : decide (i < l.length) = true := decide_eq_true hil
  obtain ⟨ad, x', A1, c1, A2, c2, rfl, hx', p0, p1, p2, hc1, hC1, hc2, hC2⟩ := post_at hC i hil
  obtain rfl : x' = x := by rw [hx] at hx'; exact (Option.some.inj hx').symm
  have HC := Aside0.mk hC
  have HC1 := Aside0.mk hC1
  have HC2 := Aside0.mk hC2
  have hs := HS.out.2 x' (List.mem_of_getElem? hx)
  have hs1 := hs.1
  have hs2 := hs.2
  have HP := Aside0.mk (And.intro p0 (And.intro p1 p2))
  clear hgc hok hv0 hv1 hB hx hx' hC hC1 hC2 hs
  go_wp2_with fail
  refine (has_any x'.f0 A1 x'.f1.length c1 A2 x'.f2.length c2 x'.f1 oid _ rfl HC1.out hc1 hs1).mono ?_
  rintro e w3 ⟨rfl, hB⟩
  have HB3 := Aside0.mk (below_step HB2.out hB)
  have HQ3 := Aside0.mk (blk_below HQ2.out hB)
  obtain ⟨y, hy⟩ : ∃ y, y = lookL x'.f1 oid := ⟨_, rfl⟩
  obtain ⟨b, hb⟩ : ∃ b, b = atB x'.f1 oid := ⟨_, rfl⟩
  rw [← hy, ← hb] at HV ⊢
  unfold hintV
  obtain ⟨w4, hw4⟩ : ∃ w4, w4 = w3.alloc (Obj.cells #[Value.int IntKind.i64 y.f0, Value.int IntKind.i64 y.f1, Value.int IntKind.i64 y.f2] 31) := ⟨_, rfl⟩
  obtain ⟨gx, hgx⟩ : ∃ g, g = w3.heap.size := ⟨_, rfl⟩
  have HQ4 : Aside0 (w4.heap[gr]? = some (.cells #[.int .i64 0, .int .i64 0, .int .i64 0] 31 (0, 0))) := ⟨by rw [hw4]; exact blk_alloc HQ3.out _⟩
  have HX4 : Aside0 (w4.heap[gx]? = some (.cells #[.int .i64 y.f0, .int .i64 y.f1, .int .i64 y.f2] 31 (0, 0))) := ⟨by rw [hw4, hgx]; exact heap_alloc_new _ _⟩
  have hB24 : Below w2.heap.size w2 w4 := by rw [hw4]; exact below_alloc hB _
  have HB4 : Aside0 (Below w.heap.size w w4) := ⟨below_step HB2.out hB24⟩
  have HC4 := Aside0.mk (Kd.C_below HC.out hB24)
  have HC24 := Aside0.mk (Kd.C_below HC2.out hB24)
  have hpb := World.block_lt_of_cell? w2 _ HP.out.1
  have HP4 : Aside0 (w4.cell? (ad.add (i * 3)) = some (.bool x'.f0) ∧ w4.cell? ⟨(ad.add (i * 3)).block, (ad.add (i * 3)).off + 1, none⟩ = some (.slice A1 x'.f1.length c1) ∧ w4.cell? ⟨(ad.add (i * 3)).block, (ad.add (i * 3)).off + 2, none⟩ = some (.slice A2 x'.f2.length c2)) :=
    ⟨(hB24.cell hpb).trans HP.out.1, (hB24.cell (p := ⟨(ad.add (i * 3)).block, (ad.add (i * 3)).off + 1, none⟩) hpb).trans HP.out.2.1, (hB24.cell (p := ⟨(ad.add (i * 3)).block, (ad.add (i * 3)).off + 2, none⟩) hpb).trans HP.out.2.2⟩
  clear hy hb hB p0 p1 p2 hpb hB24
  go_upto_region 5 with fail
  rw [← hw4, ← hgx]
  clear hw4 hgx
  cases b with
  | true =>
    obtain ⟨q0, q1, q2, f0, f1, f2⟩ := blk3 HQ4.out
    obtain ⟨r0, r1, r2, d0, d1, d2⟩ := blk3 HX4.out
    go_wp2_with fail
    refine bodyPost_ret (results_ctt rfl _ _ gr 31 #[.int .i64 y.f0, .int .i64 y.f1, .int .i64 y.f2] (0, 0) _ rfl (blk_store3 HQ4.out _ _ _) Try.underlying31 rfl (by kernel_rfl)) rfl ?_
    exact ⟨by rw [HV.out]; rfl, below_store3 HB4.out HG.out _ _ _⟩
  | false =>
    obtain ⟨p0, p1, p2⟩ := HP4.out
    go_wp2_with fail
    refine (hint_any x'.f0 A1 x'.f1.length c1 A2 x'.f2.length c2 x'.f2 oid _ rfl HC24.out hc2 hs2).mono ?_
    rintro e w5 ⟨rfl, hB⟩
    have HB5 := Aside0.mk (below_step HB4.out hB)
    have HQ5 := Aside0.mk (blk_below HQ4.out hB)
    obtain ⟨z, hz⟩ : ∃ z, z = lookL x'.f2 oid := ⟨_, rfl⟩
    obtain ⟨b, hb⟩ : ∃ b, b = atB x'.f2 oid := ⟨_, rfl⟩
    rw [← hz, ← hb] at HV ⊢
    unfold hintV
    obtain ⟨w6, hw6⟩ : ∃ w6, w6 = w5.alloc (Obj.cells #[Value.int IntKind.i64 z.f0, Value.int IntKind.i64 z.f1, Value.int IntKind.i64 z.f2] 31) := ⟨_, rfl⟩
    obtain ⟨gx, hgx⟩ : ∃ g, g = w5.heap.size := ⟨_, rfl⟩
    have HQ6 : Aside0 (w6.heap[gr]? = some (.cells #[.int .i64 0, .int .i64 0, .int .i64 0] 31 (0, 0))) := ⟨by rw [hw6]; exact blk_alloc HQ5.out _⟩
    have HX6 : Aside0 (w6.heap[gx]? = some (.cells #[.int .i64 z.f0, .int .i64 z.f1, .int .i64 z.f2] 31 (0, 0))) := ⟨by rw [hw6, hgx]; exact heap_alloc_new _ _⟩
    have HB6 : Aside0 (Below w.heap.size w w6) := ⟨by rw [hw6]; exact below_alloc HB5.out _⟩
    clear hz hb hB p0 p1 p2
    go_upto_region 8 with fail
    rw [← hw6, ← hgx]
    clear hw6 hgx
    obtain ⟨q0, q1, q2, f0, f1, f2⟩ := blk3 HQ6.out
    obtain ⟨r0, r1, r2, d0, d1, d2⟩ := blk3 HX6.out
    cases b with
    | true =>
      go_wp2_with fail
      refine bodyPost_ret (results_ctt rfl _ _ gr 31 #[.int .i64 z.f0, .int .i64 z.f1, .int .i64 z.f2] (0, 0) _ rfl (blk_store3 HQ6.out _ _ _) Try.underlying31 rfl (by kernel_rfl)) rfl ?_
      exact ⟨by rw [HV.out]; rfl, below_store3 HB6.out HG.out _ _ _⟩
    | false =>
      go_wp2_with fail
      refine bodyPost_ret (results_ctt rfl _ _ gr 31 #[.int .i64 0, .int .i64 0, .int .i64 0] (0, 0) _ rfl (blk_store3 HQ6.out _ _ _) Try.underlying31 rfl (by kernel_rfl)) rfl ?_
      exact ⟨by rw [HV.out]; rfl, below_store3 HB6.out HG.out _ _ _⟩
end Go.Proofs.Ytjnceoohlcchnaa.Print

/-! A place is told a hint. -/
namespace Go.Proofs.Ytjnceoohlcchnaa.Print
open Go Go.RowKit Go.Deep Go.Proofs.YtjnceoohlcchnaaW.PrintWords Go.Proofs.YtjnceoohlcchnaaW.PrintLast Go.Proofs.YtjnceoohlcchnaaW.PrintMore

/-- what a map is behind one of its places was told a hint; false: there is no room -/
def tellF (l : List S36) (i : Nat) (h : S31) : Bool × List S36 :=
  if atB (postA l i).f1 h.f0 = true then (true, l)
  else if (atB (postA l i).f2 h.f0 && decide (h.f2 ≤ (lookL (postA l i).f2 h.f0).f2)) = true then (true, l)
  else if (!atB (postA l i).f2 h.f0 && decide (4000 ≤ (postA l i).f2.length)) = true then (false, l)
  else (true, l.set i ⟨(postA l i).f0, (postA l i).f1, putL (postA l i).f2 h⟩)
set_option maxRecDepth 100000 in
set_option maxHeartbeats 8000000 in
theorem tell_any (base g cap : Nat) (l : List S36) (i : Nat) (h : S31) (w : World) (hO : Own w base g cap l) (hi : i < l.length) (hcap : l.length ≤ cap) (hbs : base ≤ w.heap.size) (hbg : base ≤ g) (hS : Short l) :
    Calls Try.prog 61 #[.slice (some ⟨g, 0, none⟩) l.length cap, .int .i64 (i : Int), .agg #[.int .i64 h.f0, .int .i64 h.f1, .int .i64 h.f2]] w fun e w' => e = .returned (.bool (tellF l i h).1) ∧ Own w' base g cap (tellF l i h).2 ∧ Below base w w' ∧ KeepBut w w' g none := by
  obtain ⟨x, hx⟩ : ∃ x, l[i]? = some x := ⟨_, List.getElem?_eq_getElem hi⟩
  have hs := hS.2 x (List.mem_of_getElem? hx)
  have hs1 := hs.1
  have hs2 := hs.2
  have hl6 := hS.1
  have HV : Aside0 (tellF l i h = if atB x.f1 h.f0 = true then (true, l) else if (atB x.f2 h.f0 && decide (h.f2 ≤ (lookL x.f2 h.f0).f2)) = true then (true, l) else if (!atB x.f2 h.f0 && decide (4000 ≤ x.f2.length)) = true then (false, l) else (true, l.set i ⟨x.f0, x.f1, putL x.f2 h⟩)) := ⟨by unfold tellF; rw [postA_some hx]⟩
  have HX := Aside0.mk hx
  have HO := Aside0.mk hO
  have hd : decide (i < l.length) = true := decide_eq_true hi
  clear hx hS hs hO
  have hu := Try.underlying81
  go_enter Try.func61, Try.ntmps61
  go_upto_region 2 with fail
  obtain ⟨gb, hgb⟩ : ∃ g, g = w.heap.size := ⟨_, rfl⟩
  obtain ⟨w1, hw1⟩ : ∃ w1, w1 = w.alloc (Obj.cells #[Value.int IntKind.i64 h.f0, Value.int IntKind.i64 h.f1, Value.int IntKind.i64 h.f2] 31) := ⟨_, rfl⟩
  rw [← hw1, ← hgb]
  have HB1 : Aside0 (Below w.heap.size w w1) := ⟨by rw [hw1]; exact below_alloc (Below.refl _ _) _⟩
  have HN1 : Aside0 (w1.heap[gb]? = some (.cells #[.int .i64 h.f0, .int .i64 h.f1, .int .i64 h.f2] 31 (0, 0))) := ⟨by rw [hw1, hgb]; exact heap_alloc_new _ _⟩
  have HO1 := Aside0.mk (HO.out.below HB1.out)
  clear hw1 hgb
  obtain ⟨A1, c1, A2, c2, q0, q1, q2, f0, f1, f2, r1, r2, hc1, hc2⟩ := HO1.out.cells HX.out
  obtain ⟨n0, n1, n2, _, _, _⟩ := blk3 HN1.out
  have HC1 := Aside0.mk (Kd.R_reads' r1).2.2
  have HC2 := Aside0.mk (Kd.R_reads' r2).2.2
  have hqb := World.block_lt_of_cell? w1 _ q0
  have hnb := World.block_lt_of_cell? w1 _ n0
  have HSB : Aside0 (∀ w', Below w1.heap.size w1 w' → (w'.cell? ⟨g, i * 3, none⟩ = some (.bool x.f0) ∧ w'.cell? ⟨g, i * 3 + 1, none⟩ = some (.slice A1 x.f1.length c1) ∧ w'.cell? ⟨g, i * 3 + 2, none⟩ = some (.slice A2 x.f2.length c2) ∧ w'.cell? ⟨gb, 0, none⟩ = some (.int .i64 h.f0) ∧ Below w1.heap.size w1 w')) :=
    ⟨fun w' hb => ⟨(hb.cell (p := ⟨g, i * 3, none⟩) hqb).trans q0, (hb.cell (p := ⟨g, i * 3 + 1, none⟩) hqb).trans q1, (hb.cell (p := ⟨g, i * 3 + 2, none⟩) hqb).trans q2, (hb.cell (p := ⟨gb, 0, none⟩) hnb).trans n0, hb⟩⟩
  have HSC : Aside0 (∀ w', Below w1.heap.size w1 w' → w'.cell? ⟨gb, 1, none⟩ = some (.int .i64 h.f1) ∧ w'.cell? ⟨gb, 2, none⟩ = some (.int .i64 h.f2)) :=
    ⟨fun w' hb => ⟨(hb.cell (p := ⟨gb, 1, none⟩) hnb).trans n1, (hb.cell (p := ⟨gb, 2, none⟩) hnb).trans n2⟩⟩
  clear r1 r2 hqb hnb q0 q1 q2 f0 f1 f2 n0 n1 n2
  go_cut [8, 9] (fun u8 u9 wx => u9 = .bool (atB x.f1 h.f0) ∧ ∃ gh, u8 = .pointer (some ⟨gh, 0, none⟩) ∧ Aside0 (Below w1.heap.size w1 wx))
  case first =>
    go_region_held3 (fun w' => w'.cell? ⟨g, i * 3, none⟩ = some (.bool x.f0) ∧ w'.cell? ⟨g, i * 3 + 1, none⟩ = some (.slice A1 x.f1.length c1) ∧ w'.cell? ⟨g, i * 3 + 2, none⟩ = some (.slice A2 x.f2.length c2) ∧ w'.cell? ⟨gb, 0, none⟩ = some (.int .i64 h.f0) ∧ Below w1.heap.size w1 w') (exact HSB.out _ (by repeat (first | exact Below.refl _ _ | exact HB2.out | refine below_drew ?_ | refine below_alloc ?_ _ | refine below_set ?_ (by first | exact Nat.le_refl _ | exact HB2.out.size)))) (first | (go_at_call 66; refine (has_any x.f0 A1 x.f1.length c1 A2 x.f2.length c2 x.f1 h.f0 _ rfl (Kd.C_below HC1.out (by repeat (first | exact Below.refl _ _ | refine below_drew ?_ | refine below_alloc ?_ _))) hc1 hs1).mono ?_; rintro e w2 ⟨rfl, hB⟩; have HB2 : Aside0 (Below w1.heap.size w1 w2) := ⟨below_step (by repeat (first | exact Below.refl _ _ | refine below_drew ?_ | refine below_alloc ?_ _)) hB⟩; (try (have HN : Aside0 (w2.heap[w1.heap.size]? = some (.cells #[.int .i64 0, .int .i64 0, .int .i64 0] 31 (0, 0))) := ⟨blk_below (heap_alloc_new w1.drew _) hB⟩; obtain ⟨n0, n1, n2, g0, g1, g2⟩ := blk3 HN.out)); clear hB; unfold hintV))
    all_goals
      go_wp2_with fail
      go_meet
      case rel => exact ⟨rfl, _, rfl, ⟨by first | exact HB2.out | exact below_alloc HB2.out _ | exact below_store3 HB2.out (Nat.le_refl _) _ _ _⟩⟩
  case rest =>
    obtain ⟨rfl, gh, rfl, HBC⟩ := hcut
    have HBW := Aside0.mk (below_step HB1.out HBC.out)
    have HOC := Aside0.mk (HO1.out.below HBC.out)
    by_cases hb : atB x.f1 h.f0 = true
    · have HV2 : Aside0 (tellF l i h = (true, l)) := ⟨by rw [HV.out, if_pos hb]⟩
      rw [hb]
      clear hb HV
      go_wp2_with fail
      go_returns
      exact ⟨by rw [HV2.out]; rfl, by rw [HV2.out]; exact HOC.out, HBW.out.mono hbs, KeepBut.of_below HBW.out _ _⟩
    have HV1 : Aside0 (tellF l i h = if (atB x.f2 h.f0 && decide (h.f2 ≤ (lookL x.f2 h.f0).f2)) = true then (true, l) else if (!atB x.f2 h.f0 && decide (4000 ≤ x.f2.length)) = true then (false, l) else (true, l.set i ⟨x.f0, x.f1, putL x.f2 h⟩)) := ⟨by rw [HV.out, if_neg hb]⟩
    have hb2 : atB x.f1 h.f0 = false := by simpa using hb
    rw [hb2]
    clear hb hb2 HV
    go_upto_region 5 with fail
    go_cut [10, 11] (fun u10 u11 wx => u11 = .bool (atB x.f2 h.f0) ∧ ∃ gh, u10 = .pointer (some ⟨gh, 0, none⟩) ∧ Aside0 (Below wc.heap.size wc wx) ∧ Aside0 (wx.heap[gh]? = some (.cells #[.int .i64 (lookL x.f2 h.f0).f0, .int .i64 (lookL x.f2 h.f0).f1, .int .i64 (lookL x.f2 h.f0).f2] 31 (0, 0))))
    case first =>
      have HSD : Aside0 (∀ w', Below wc.heap.size wc w' → (w'.cell? ⟨g, i * 3, none⟩ = some (.bool x.f0) ∧ w'.cell? ⟨g, i * 3 + 1, none⟩ = some (.slice A1 x.f1.length c1) ∧ w'.cell? ⟨g, i * 3 + 2, none⟩ = some (.slice A2 x.f2.length c2) ∧ w'.cell? ⟨gb, 0, none⟩ = some (.int .i64 h.f0) ∧ Below wc.heap.size wc w')) :=
        ⟨fun w' hb => by obtain ⟨a, b, c, d, e⟩ := HSB.out w' (below_step HBC.out hb); exact ⟨a, b, c, d, hb⟩⟩
      go_region_held3 (fun w' => w'.cell? ⟨g, i * 3, none⟩ = some (.bool x.f0) ∧ w'.cell? ⟨g, i * 3 + 1, none⟩ = some (.slice A1 x.f1.length c1) ∧ w'.cell? ⟨g, i * 3 + 2, none⟩ = some (.slice A2 x.f2.length c2) ∧ w'.cell? ⟨gb, 0, none⟩ = some (.int .i64 h.f0) ∧ Below wc.heap.size wc w') (exact HSD.out _ (by repeat (first | exact Below.refl _ _ | exact HB2.out | refine below_drew ?_ | refine below_alloc ?_ _ | refine below_set ?_ (by first | exact Nat.le_refl _ | exact HB2.out.size)))) (first | (go_at_call 69; refine (hint_any x.f0 A1 x.f1.length c1 A2 x.f2.length c2 x.f2 h.f0 _ rfl (Kd.C_below HC2.out (below_step HBC.out (by repeat (first | exact Below.refl _ _ | refine below_drew ?_ | refine below_alloc ?_ _)))) hc2 hs2).mono ?_; rintro e w2 ⟨rfl, hB⟩; have HB2 : Aside0 (Below wc.heap.size wc w2) := ⟨below_step (by repeat (first | exact Below.refl _ _ | refine below_drew ?_ | refine below_alloc ?_ _)) hB⟩; (try (have HN : Aside0 (w2.heap[wc.heap.size]? = some (.cells #[.int .i64 0, .int .i64 0, .int .i64 0] 31 (0, 0))) := ⟨blk_below (heap_alloc_new wc.drew _) hB⟩; obtain ⟨n0, n1, n2, g0, g1, g2⟩ := blk3 HN.out)); clear hB; unfold hintV))
      all_goals
        go_wp2_with fail
        go_meet
        case rel => exact ⟨rfl, _, rfl, ⟨by first | exact HB2.out | exact below_alloc HB2.out _ | exact below_store3 HB2.out (Nat.le_refl _) _ _ _⟩, ⟨by first | exact blk_store3 HN.out _ _ _ | exact heap_alloc_new _ _⟩⟩
    case rest =>
      obtain ⟨rfl, gy, rfl, HBD, HNY⟩ := hcut
      have HBE := Aside0.mk (below_step HBC.out HBD.out)
      have HBF := Aside0.mk (below_step HBW.out HBD.out)
      have HOD := Aside0.mk (HOC.out.below HBD.out)
      obtain ⟨y, hy⟩ : ∃ y, y = lookL x.f2 h.f0 := ⟨_, rfl⟩
      obtain ⟨b, hb⟩ : ∃ b, b = atB x.f2 h.f0 := ⟨_, rfl⟩
      rw [← hy] at HNY HV1
      rw [← hb] at HV1 ⊢
      obtain ⟨s0, s1, s2, n0, _⟩ := HSB.out _ HBE.out
      obtain ⟨n1, n2⟩ := HSC.out _ HBE.out
      obtain ⟨y0, y1, y2, _, _, _⟩ := blk3 HNY.out
      obtain ⟨t1, ht1⟩ : ∃ t, t = decide (h.f2 ≤ y.f2) := ⟨_, rfl⟩
      obtain ⟨t2, ht2⟩ : ∃ t, t = decide (4000 ≤ x.f2.length) := ⟨_, rfl⟩
      rw [← ht1, ← ht2] at HV1
      have d1 := ht1.symm
      have d2 : decide ((4000 : Int) ≤ (x.f2.length : Int)) = t2 := by rw [ht2]; exact decide_eq_decide.2 (by omega)
      clear hy hb ht1 ht2
      cases b with
      | true =>
        cases t1 with
        | true =>
          have HF : Aside0 (tellF l i h = (true, l)) := ⟨by rw [HV1.out]; rfl⟩
          clear HV1
          go_wp2_with fail
          go_returns
          exact ⟨by rw [HF.out]; rfl, by rw [HF.out]; exact HOD.out, HBF.out.mono hbs, KeepBut.of_below HBF.out _ _⟩
        | false =>
          have HF : Aside0 (tellF l i h = (true, l.set i ⟨x.f0, x.f1, putL x.f2 h⟩)) := ⟨by rw [HV1.out]; rfl⟩
          clear HV1
          go_upto_region 10 with fail
          go_region_with (first | (go_at_call 68; refine (put_any A2 c2 x.f2 h _ (Kd.C_below HC2.out (by first | exact HBE.out | exact below_drew HBE.out)) hc2 hs2).mono ?_; rintro e w2 ⟨v, rfl, hF, hB⟩; obtain ⟨U, cu, rfl⟩ := Kd.R_slice hF; have HO2 := Aside0.mk ((HOD.out.below (below_drew (Below.refl _ _))).below hB); have HB2 := Aside0.mk (below_step (below_drew HBF.out) hB); have HO3 := Aside0.mk (HO2.out.put2 HX.out (Nat.le_trans hbs HBF.out.size) hF); clear hF hB; obtain ⟨A1', c1', A2', c2', _, _, q2', _, _, f2', _, _, _, _⟩ := HO2.out.cells HX.out))
          all_goals
            go_wp2_with fail
            go_returns
            exact ⟨by rw [HF.out]; rfl, by rw [HF.out]; exact HO3.out, (HB2.out.mono hbs).setCell hbg _, (KeepBut.of_below HB2.out _ _).set_ _ _⟩
      | false =>
        cases t2 with
        | true =>
          have HF : Aside0 (tellF l i h = (false, l)) := ⟨by rw [HV1.out]; rfl⟩
          clear HV1
          go_wp2_with fail
          go_returns
          exact ⟨by rw [HF.out]; rfl, by rw [HF.out]; exact HOD.out, HBF.out.mono hbs, KeepBut.of_below HBF.out _ _⟩
        | false =>
          have HF : Aside0 (tellF l i h = (true, l.set i ⟨x.f0, x.f1, putL x.f2 h⟩)) := ⟨by rw [HV1.out]; rfl⟩
          clear HV1
          go_upto_region 10 with fail
          go_region_with (first | (go_at_call 68; refine (put_any A2 c2 x.f2 h _ (Kd.C_below HC2.out (by first | exact HBE.out | exact below_drew HBE.out)) hc2 hs2).mono ?_; rintro e w2 ⟨v, rfl, hF, hB⟩; obtain ⟨U, cu, rfl⟩ := Kd.R_slice hF; have HO2 := Aside0.mk ((HOD.out.below (below_drew (Below.refl _ _))).below hB); have HB2 := Aside0.mk (below_step (below_drew HBF.out) hB); have HO3 := Aside0.mk (HO2.out.put2 HX.out (Nat.le_trans hbs HBF.out.size) hF); clear hF hB; obtain ⟨A1', c1', A2', c2', _, _, q2', _, _, f2', _, _, _, _⟩ := HO2.out.cells HX.out))
          all_goals
            go_wp2_with fail
            go_returns
            exact ⟨by rw [HF.out]; rfl, by rw [HF.out]; exact HO3.out, (HB2.out.mono hbs).setCell hbg _, (KeepBut.of_below HB2.out _ _).set_ _ _⟩
end Go.Proofs.Ytjnceoohlcchnaa.Print

/-! What a map is behind a move. -/
namespace Go.Proofs.Ytjnceoohlcchnaa.Print
open Go Go.RowKit Go.Deep Go.Proofs.YtjnceoohlcchnaaW.PrintWords Go.Proofs.YtjnceoohlcchnaaW.PrintLast Go.Proofs.YtjnceoohlcchnaaW.PrintMore
def moveL (l : List S36) (a b : Nat) (oid : Int) (next : S31) (x y : S36) : List S36 := (l.set a ⟨x.f0, withoutL x.f1 oid, putL x.f2 next⟩).set b ⟨y.f0, putL y.f1 next, withoutL y.f2 oid⟩
def moveF (l : List S36) (oid place : Int) : List S36 × Int :=
  if givenC l (decide (1 ≤ oid)) [place] = 0 then
    (if (whereL l oid).2 = true then
      (if (!(postA l place).f0 || (whereL l oid).1.f1 == place) = true then ([], 1)
      else if (decide (1099511627776 ≤ (whereL l oid).1.f2) || decide (4000 ≤ (postA l place).f1.length) || decide (4000 ≤ (postA l (whereL l oid).1.f1).f2.length)) = true then ([], 2)
      else (moveL l (whereL l oid).1.f1.toNat place.toNat oid ⟨oid, place, (whereL l oid).1.f2 + 1⟩ (postA l (whereL l oid).1.f1) (postA l place), 0))
    else ([], 3))
  else ([], givenC l (decide (1 ≤ oid)) [place])
def makeF (l : List S36) (oid place : Int) : List S36 × Int :=
  if givenC l (decide (1 ≤ oid)) [place] = 0 then
    (if ((l.any fun p => atB p.f1 oid || atB p.f2 oid) || !(postA l place).f0) = true then ([], 1)
    else if 4000 ≤ (postA l place).f1.length then ([], 2)
    else (l.set place.toNat ⟨(postA l place).f0, putL (postA l place).f1 ⟨oid, place, 0⟩, (postA l place).f2⟩, 0))
  else ([], givenC l (decide (1 ≤ oid)) [place])
end Go.Proofs.Ytjnceoohlcchnaa.Print
