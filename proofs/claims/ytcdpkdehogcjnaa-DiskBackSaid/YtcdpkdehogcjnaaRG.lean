/- DiskBack: for every disk's bytes, both lists of records and every number the statement answers true, and all read afterwards as before; without condition. -/
import Derived.Test.YtcdpkdehogcjnaaRF
import Derived.Test.YtcdpkdehogcjnaaRD
import Derived.Test.YtcdpkdehogcjnaaRows
import Derived.WalkKit
import Derived.ProofKit
import Derived.OpenShut
import Derived.ShutString
import Derived.ChangeOld
import Derived.Below
import Derived.SizedLaws
set_option linter.unusedVariables false
set_option linter.unusedSimpArgs false
/-! The walk of DiskBack's law (printed by wip/dev/genback.py). -/
namespace Go.Proofs.Ytcdpkdehogcjnaa.Print
open Go Go.RowKit Go.Deep Go.Proofs.YtcdpkdehogcjnaaW.PrintWords Go.Proofs.YtcdpkdehogcjnaaW.PrintLast Go.Proofs.YtcdpkdehogcjnaaW.PrintMore

theorem recp_at {W : World} {A : Option Addr} {l : List S62} (h : Kd.C k62 W A l.length l) (i : Nat) (hi : i < l.length) :
    ∃ ad A1 c1, A = some ad ∧ W.cell? (ad.add (i * 2)) = some (.int .i64 l[i].f0) ∧ W.cell? ⟨(ad.add (i * 2)).block, (ad.add (i * 2)).off + 1, none⟩ = some (.slice A1 l[i].f1.length c1) ∧
      l[i].f1.length ≤ c1 ∧ Kd.C (Kd.int .u8) W A1 l[i].f1.length l[i].f1 := by
  obtain ⟨ad, A1, c1, e, h0, h1, hl, hC⟩ := at_T62 h (i : Int) (by omega) (by omega)
  rw [rdP l i hi] at h0 h1 hl hC
  exact ⟨ad, A1, c1, e, h0, h1, hl, hC⟩
theorem few_small {l : List S62} (h : l.length ≤ 300) (ht : totN l ≤ 20000) : (recsB l).length ≤ 70368744177664 := by rw [recs_len]; omega
def BkRel (w7 : World) (num : Int) (l1 : List S62) (u16 u17 : Value) (wr : World) : Prop :=
  ∃ i : Nat, u17 = .int .i64 i ∧ i ≤ l1.length ∧ u16 = .bool (foundL num (l1.take i)) ∧ Aside0 (Below w7.heap.size w7 wr)

set_option maxRecDepth 100000 in
set_option maxHeartbeats 16000000 in
theorem back_walk (A0 : Option Addr) (c0 : Nat) (l0 : List Int) (A1 : Option Addr) (c1 : Nat) (l1 : List S62) (A2 : Option Addr) (c2 : Nat) (l2 : List S62) (num : Int) (w : World)
    (hr0 : Kd.C (Kd.int .u8) w A0 l0.length l0) (hc0 : l0.length ≤ c0)
    (hr1 : Kd.C k62 w A1 l1.length l1) (hc1 : l1.length ≤ c1)
    (hr2 : Kd.C k62 w A2 l2.length l2) (hc2 : l2.length ≤ c2)
    (hb0 : IsBytes l0) (hl1 : l1.length * 32 ≤ 140737488351232) (hB1 : ∀ x ∈ l1, RecFits x) (hl2 : l2.length * 32 ≤ 140737488351232) (hB2 : ∀ x ∈ l2, RecFits x) :
    Calls Try.prog 7 #[.slice A0 l0.length c0, .slice A1 l1.length c1, .slice A2 l2.length c2, .int .i64 num] w fun e w' => e = .returned (.bool true) ∧ Below w.heap.size w w' := by
  have HD := Aside0.mk hr0
  have HL := Aside0.mk hr1
  have HM := Aside0.mk hr2
  have HB0 := Aside0.mk hb0
  have HB1 := Aside0.mk (fits_bytes hB1)
  have HB2 := Aside0.mk (fits_bytes hB2)
  obtain ⟨fw, hfew, hbnd⟩ := few_f l0 l1 hl1 hB1
  obtain ⟨gw, hgew, hgnd⟩ := few_f l0 l2 hl2 hB2
  have HF := Aside0.mk (hfew (l1.length + 1) (Nat.lt_succ_self _))
  have HG := Aside0.mk (hgew (l2.length + 1) (Nat.lt_succ_self _))
  have HBD := Aside0.mk hbnd
  have HGD := Aside0.mk hgnd
  clear hr0 hr1 hr2 hb0 hB1 hB2 hfew hbnd hgew hgnd hl1 hl2
  go_enter Try.func7, Try.ntmps7
  go_wp2_with fail
  refine (beryllaw20_awake.calls true w rfl).mono ?_
  rintro e w1 ⟨rfl, hB⟩
  have HW : Aside0 (Below w.heap.size w w1) := ⟨hB⟩
  replace HD := Aside0.mk (Kd.C_below HD.out hB)
  replace HL := Aside0.mk (Kd.C_below HL.out hB)
  replace HM := Aside0.mk (Kd.C_below HM.out hB)
  clear hB
  go_wp2_with fail
  refine (beryllaw20_few.calls (l1.length + 1) A0 c0 l0 A1 c1 l1 fw w1 HD.out hc0 HL.out hc1 HF.out).mono ?_
  rintro e w' ⟨rfl, ⟨nd, rfl⟩⟩
  obtain ⟨w2, hwN⟩ : ∃ w2, w2 = w1.drewN nd := ⟨_, rfl⟩
  have hB : Below w1.heap.size w1 w2 := by rw [hwN]; exact pw_below_drewN (Below.refl _ _) _
  rw [← hwN]
  replace HD := Aside0.mk (Kd.C_below HD.out hB)
  replace HL := Aside0.mk (Kd.C_below HL.out hB)
  replace HM := Aside0.mk (Kd.C_below HM.out hB)
  replace HW : Aside0 (Below w.heap.size w w2) := ⟨HW.out.trans (hB.mono HW.out.size)⟩
  clear hwN hB
  cases fw with
  | false =>
    go_wp2_with fail
    go_returns
    exact ⟨rfl, HW.out⟩
  | true =>
  have HBD2 := Aside0.mk (HBD.out rfl)
  clear HBD
  go_wp2_with fail
  refine (beryllaw20_few.calls (l2.length + 1) A0 c0 l0 A2 c2 l2 gw w2 HD.out hc0 HM.out hc2 HG.out).mono ?_
  rintro e w' ⟨rfl, ⟨nd, rfl⟩⟩
  obtain ⟨w3, hwN⟩ : ∃ w3, w3 = w2.drewN nd := ⟨_, rfl⟩
  have hB : Below w2.heap.size w2 w3 := by rw [hwN]; exact pw_below_drewN (Below.refl _ _) _
  rw [← hwN]
  replace HD := Aside0.mk (Kd.C_below HD.out hB)
  replace HL := Aside0.mk (Kd.C_below HL.out hB)
  replace HM := Aside0.mk (Kd.C_below HM.out hB)
  replace HW : Aside0 (Below w.heap.size w w3) := ⟨HW.out.trans (hB.mono HW.out.size)⟩
  clear hwN hB
  cases gw with
  | false =>
    go_wp2_with fail
    go_returns
    exact ⟨rfl, HW.out⟩
  | true =>
  obtain ⟨_, h300, htot⟩ := HBD2.out
  obtain ⟨_, g300, gtot⟩ := HGD.out rfl
  have HSM := Aside0.mk (few_small h300 htot)
  have H300 := Aside0.mk (⟨h300, g300⟩ : _ ∧ _)
  clear h300 htot g300 gtot
  rcases write_cases HB0.out l1 HB1.out with ⟨ec, hec, hw⟩ | ⟨ha, j, st, ws, ys, hw, hdo, hyb, hdy, hrecs⟩
  · have hwf : disk_Write.f l0 l1 = some ([], ec) := by unfold disk_Write.f; rw [if_pos ⟨HB0.out, HSM.out⟩, hw]
    have HWF := Aside0.mk hwf
    have dec : (ec != 0) = true := by rw [bne_iff_ne]; exact hec
    clear hwf hw hec
    go_wp2_with fail
    refine (disk_Write.calls A0 c0 l0 A1 c1 l1 [] ec w3 HD.out hc0 HL.out hc1 HWF.out).mono ?_
    rintro e w4 ⟨v, rfl, hR, hB⟩
    obtain ⟨Aw, cw, rfl⟩ := Kd.R_slice hR
    obtain ⟨_, hcw, hC⟩ := Kd.R_reads' hR
    replace HD := Aside0.mk (Kd.C_below HD.out hB)
    replace HW : Aside0 (Below w.heap.size w w4) := ⟨HW.out.trans (hB.mono HW.out.size)⟩
    have HWS := Aside0.mk hC
    clear hR hB hC
    simp only [List.length_nil]
    go_wp2_with fail
    go_returns
    exact ⟨rfl, HW.out⟩
  have hwf : disk_Write.f l0 l1 = some (ws, 0) := by unfold disk_Write.f; rw [if_pos ⟨HB0.out, HSM.out⟩, hw]
  have HWF := Aside0.mk hwf
  have HDO := Aside0.mk hdo
  have HYB := Aside0.mk hyb
  have HDY := Aside0.mk hdy
  have HRECS := Aside0.mk hrecs
  have HASK := Aside0.mk ha
  clear hwf hw hdo hyb hdy hrecs ha
  go_wp2_with fail
  refine (disk_Write.calls A0 c0 l0 A1 c1 l1 ws 0 w3 HD.out hc0 HL.out hc1 HWF.out).mono ?_
  rintro e w4 ⟨v, rfl, hR, hB⟩
  obtain ⟨Aw, cw, rfl⟩ := Kd.R_slice hR
  obtain ⟨_, hcw, hC⟩ := Kd.R_reads' hR
  replace HD := Aside0.mk (Kd.C_below HD.out hB)
  replace HL := Aside0.mk (Kd.C_below HL.out hB)
  replace HM := Aside0.mk (Kd.C_below HM.out hB)
  replace HW : Aside0 (Below w.heap.size w w4) := ⟨HW.out.trans (hB.mono HW.out.size)⟩
  have HWS := Aside0.mk hC
  clear hR hB hC
  go_wp2_with fail
  refine (disk_Do.calls A0 c0 l0 Aw cw ws ys 0 w4 HD.out hc0 HWS.out hcw HDO.out).mono ?_
  rintro e w5 ⟨v, rfl, hR, hB⟩
  obtain ⟨Ay, cy, rfl⟩ := Kd.R_slice hR
  obtain ⟨_, hcy, hC⟩ := Kd.R_reads' hR
  replace HL := Aside0.mk (Kd.C_below HL.out hB)
  replace HM := Aside0.mk (Kd.C_below HM.out hB)
  replace HW : Aside0 (Below w.heap.size w w5) := ⟨HW.out.trans (hB.mono HW.out.size)⟩
  have HY := Aside0.mk hC
  clear hR hB hC
  clear HD HWS
  have HOP : Aside0 (disk_Open.f ys = some (l1, 0)) := ⟨by unfold disk_Open.f; rw [if_pos HYB.out, HDY.out]; simp only [HRECS.out]⟩
  go_wp2_with fail
  refine (disk_Open.calls Ay cy ys l1 0 w5 HY.out hcy HOP.out).mono ?_
  rintro e w6 ⟨v, rfl, hR, hB⟩
  obtain ⟨Ak, ck, rfl⟩ := Kd.R_slice hR
  obtain ⟨_, hck, hC⟩ := Kd.R_reads' hR
  replace HL := Aside0.mk (Kd.C_below HL.out hB)
  replace HM := Aside0.mk (Kd.C_below HM.out hB)
  replace HY := Aside0.mk (Kd.C_below HY.out hB)
  replace HW : Aside0 (Below w.heap.size w w6) := ⟨HW.out.trans (hB.mono HW.out.size)⟩
  have HK := Aside0.mk hC
  clear hR hB hC
  go_wp2_with fail
  refine (berylref20_SameRecords.calls (l1.length + 1) Ak ck l1 A1 c1 l1 true w6 HK.out hck HL.out hc1 (same_recs l1 (by have := H300.out; omega) _ (Nat.lt_succ_self _))).mono ?_
  rintro e w' ⟨rfl, ⟨nd, rfl⟩⟩
  obtain ⟨w7, hwN⟩ : ∃ w7, w7 = w6.drewN nd := ⟨_, rfl⟩
  have hB : Below w6.heap.size w6 w7 := by rw [hwN]; exact pw_below_drewN (Below.refl _ _) _
  rw [← hwN]
  replace HL := Aside0.mk (Kd.C_below HL.out hB)
  replace HM := Aside0.mk (Kd.C_below HM.out hB)
  replace HY := Aside0.mk (Kd.C_below HY.out hB)
  replace HW : Aside0 (Below w.heap.size w w7) := ⟨HW.out.trans (hB.mono HW.out.size)⟩
  clear hwN hB
  clear HK
  go_wp2_with fail
  go_loopw [16, 17] (fun u16 u17 wr => BkRel w7 num l1 u16 u17 wr) (fun _ u17 _ => l1.length - (intOf u17).toNat)
  case atStart => exact ⟨0, rfl, by omega, rfl, ⟨Below.refl _ _⟩⟩
  case round =>
    obtain ⟨i, rfl, hi, rfl, HBR⟩ := hrel
    replace HL := Aside0.mk (Kd.C_below HL.out HBR.out)
    replace HM := Aside0.mk (Kd.C_below HM.out HBR.out)
    replace HY := Aside0.mk (Kd.C_below HY.out HBR.out)
    replace HW : Aside0 (Below w.heap.size w wr) := ⟨HW.out.trans (HBR.out.mono HW.out.size)⟩
    by_cases hlt : i < l1.length
    · have hd : decide (i < l1.length) = true := decide_eq_true hlt
      have hi9 : i < 1000000000 := by have := H300.out; omega
      obtain ⟨ad, Ar, cr, rfl, q0, q1, hcr, hCr⟩ := recp_at HL.out i hlt
      have HST := Aside0.mk (found_step num l1 i hlt)
      have hld : disk_Load.f ys l1[i].f0 = some (l1[i].f1, 0) := by unfold disk_Load.f; rw [if_pos HYB.out, HDY.out]; simp only [HRECS.out]; rw [load_in (asked_inc HASK.out).2 l1[i] (List.getElem_mem _)]
      obtain ⟨r, hr⟩ : ∃ r, r = l1[i] := ⟨_, rfl⟩
      rw [← hr] at q0 q1 hcr hCr hld HST
      obtain ⟨r0, r1⟩ := r
      simp only at q0 q1 hcr hCr hld HST
      have HLD := Aside0.mk hld
      have HCR := Aside0.mk hCr
      obtain ⟨fb, hfb⟩ : ∃ fb, fb = foundL num (l1.take i) := ⟨_, rfl⟩
      rw [← hfb] at HST ⊢
      obtain ⟨eb, heb⟩ : ∃ eb, (r0 == num) = eb := ⟨_, rfl⟩
      rw [heb] at HST
      clear hld hCr hr hfb
      go_wp2_with fail
      refine (disk_Load.calls Ay cy ys r0 r1 0 wr HY.out hcy HLD.out).mono ?_
      rintro e wx ⟨v, rfl, hR, hB⟩
      obtain ⟨Ab, cb, rfl⟩ := Kd.R_slice hR
      obtain ⟨_, hcb, hC⟩ := Kd.R_reads' hR
      have p0 : wx.cell? (ad.add (i * 2)) = some (.int .i64 r0) := (hB.cell (World.block_lt_of_cell? wr _ q0)).trans q0
      have p1 : wx.cell? ⟨(ad.add (i * 2)).block, (ad.add (i * 2)).off + 1, none⟩ = some (.slice Ar r1.length cr) := (hB.cell (World.block_lt_of_cell? wr _ q1)).trans q1
      have hs0 := fun n => Kd.C_string (P := Try.prog) (c := cb) Try.underlying22 Try.underlying5 Try.underlying9 (Kd.C_drewN hC n)
      have hs1 := fun n => Kd.C_string (P := Try.prog) (c := cr) Try.underlying22 Try.underlying5 Try.underlying9 (Kd.C_drewN (Kd.C_below HCR.out hB) n)
      have hs2 := Kd.C_string (P := Try.prog) (c := cb) Try.underlying22 Try.underlying5 Try.underlying9 hC
      have hs3 := Kd.C_string (P := Try.prog) (c := cr) Try.underlying22 Try.underlying5 Try.underlying9 (Kd.C_below HCR.out hB)
      obtain ⟨sb, hsb⟩ : ∃ sb, sb = strOfNums r1 := ⟨_, rfl⟩
      rw [← hsb] at hs0 hs1 hs2 hs3
      have HBX : Aside0 (Below w7.heap.size w7 wx) := ⟨HBR.out.trans (hB.mono HBR.out.size)⟩
      clear hR hB hC q0 q1 hsb
      cases fb with
      | true =>
        go_wp2_with fail
        go_quiet (fail)
        go_wp2_with fail
        go_roundw
        case measure => simp [intOf]; omega
        case rel => exact ⟨i + 1, by go_num, by omega, by rw [HST.out]; simp, ⟨pw_below_drewN HBX.out _⟩⟩
      | false =>
        go_wp2_with fail
        go_quiet (fail)
        go_wp2_with fail
        go_roundw
        case measure => simp [intOf]; omega
        case rel => exact ⟨i + 1, by go_num, by omega, by rw [HST.out]; simp, ⟨pw_below_drewN HBX.out _⟩⟩
    · obtain rfl : i = l1.length := by omega
      have hd : decide (l1.length < l1.length) = false := decide_eq_false (by omega)
      rw [List.take_length]
      rcases found_load num (asked_inc HASK.out).2 with ⟨hfd, bd, hld⟩ | ⟨hfd, hld, hleft⟩
      · have HLN : Aside0 (disk_Load.f ys num = some (bd, 0)) := ⟨by unfold disk_Load.f; rw [if_pos HYB.out, HDY.out]; simp only [HRECS.out]; exact congrArg some hld⟩
        rw [hfd]
        clear hld hfd
        go_wp2_with fail
        refine (disk_Load.calls Ay cy ys num bd 0 wr HY.out hcy HLN.out).mono ?_
        rintro e wb ⟨v, rfl, hR, hB⟩
        obtain ⟨Af, cf, rfl⟩ := Kd.R_slice hR
        obtain ⟨_, hcf, hC⟩ := Kd.R_reads' hR
        replace HL := Aside0.mk (Kd.C_below HL.out hB)
        replace HM := Aside0.mk (Kd.C_below HM.out hB)
        replace HY := Aside0.mk (Kd.C_below HY.out hB)
        replace HW : Aside0 (Below w.heap.size w wb) := ⟨HW.out.trans (hB.mono HW.out.size)⟩
        have HFB := Aside0.mk hC
        clear hR hB hC
        clear HFB
        rcases drop_cases HYB.out HDY.out HRECS.out HASK.out HB1.out [num] with hw | ⟨j1, st1, ws1, xs1, hw, hdo, hxb, hdx, hrecs1⟩
        · have HDF : Aside0 (disk_Drop.f ys [num] = some ([], 2)) := ⟨by unfold disk_Drop.f; rw [if_pos ⟨HYB.out, by simp⟩, hw]⟩
          clear hw
          go_wp2_with fail
          refine (disk_Drop.calls Ay cy ys (some ⟨wb.heap.size, 0, none⟩) 1 [num] [] 2 (wb.alloc (.cells #[.int .i64 num] 3)) (Kd.C_alloc HY.out _) hcy (C_lit .i64 [num] 3 wb (by simp) _ rfl) (by simp) HDF.out).mono ?_
          rintro e u1 ⟨v, rfl, hR, hB0⟩
          obtain ⟨Ad, cd, rfl⟩ := Kd.R_slice hR
          obtain ⟨_, hcd, hC⟩ := Kd.R_reads' hR
          have hB : Below wb.heap.size wb u1 := (below_alloc (Below.refl _ _) _).trans (hB0.mono (by simp))
          replace HL := Aside0.mk (Kd.C_below HL.out hB)
          replace HM := Aside0.mk (Kd.C_below HM.out hB)
          replace HY := Aside0.mk (Kd.C_below HY.out hB)
          replace HW : Aside0 (Below w.heap.size w u1) := ⟨HW.out.trans (hB.mono HW.out.size)⟩
          have HWD := Aside0.mk hC
          clear hR hB hB0 hC
          simp only [List.length_nil]
          rcases save_cases HYB.out HDY.out HRECS.out HASK.out HB1.out l2 HB2.out with ⟨ec, hec, hw⟩ | ⟨ha2, j2, st2, ws2, zs, hw, hdo, hzb, hdz, hrecs2⟩
          · have HSF : Aside0 (disk_Save.f ys l2 = some ([], ec)) := ⟨by unfold disk_Save.f; rw [if_pos ⟨HYB.out, by have := H300.out; omega⟩, hw]⟩
            have dec : (ec != 0) = true := by rw [bne_iff_ne]; exact hec
            clear hw hec
            go_wp2_with fail
            refine (disk_Save.calls Ay cy ys A2 c2 l2 [] ec u1 HY.out hcy HM.out hc2 HSF.out).mono ?_
            rintro e v1 ⟨v, rfl, hR, hB⟩
            obtain ⟨As, cs, rfl⟩ := Kd.R_slice hR
            obtain ⟨_, hcs, hC⟩ := Kd.R_reads' hR
            replace HY := Aside0.mk (Kd.C_below HY.out hB)
            replace HW : Aside0 (Below w.heap.size w v1) := ⟨HW.out.trans (hB.mono HW.out.size)⟩
            have HWS2 := Aside0.mk hC
            clear hR hB hC
            simp only [List.length_nil]
            go_wp2_with fail
            go_returns
            exact ⟨rfl, HW.out⟩
          · have HSF : Aside0 (disk_Save.f ys l2 = some (ws2, 0)) := ⟨by unfold disk_Save.f; rw [if_pos ⟨HYB.out, by have := H300.out; omega⟩, hw]⟩
            have HDO2 := Aside0.mk hdo
            have HMS : Aside0 (mergeP l1 l2 = savedL l2 l1) := ⟨merge_saved (asked_inc HASK.out).2 (asked_inc ha2).2⟩
            have HOZ : Aside0 (disk_Open.f zs = some (savedL l2 l1, 0)) := ⟨by unfold disk_Open.f; rw [if_pos hzb, hdz]; simp only [hrecs2]⟩
            clear hw hdo hzb hdz hrecs2 ha2
            go_wp2_with fail
            refine (disk_Save.calls Ay cy ys A2 c2 l2 ws2 0 u1 HY.out hcy HM.out hc2 HSF.out).mono ?_
            rintro e v1 ⟨v, rfl, hR, hB⟩
            obtain ⟨As, cs, rfl⟩ := Kd.R_slice hR
            obtain ⟨_, hcs, hC⟩ := Kd.R_reads' hR
            replace HY := Aside0.mk (Kd.C_below HY.out hB)
            replace HL := Aside0.mk (Kd.C_below HL.out hB)
            replace HM := Aside0.mk (Kd.C_below HM.out hB)
            replace HW : Aside0 (Below w.heap.size w v1) := ⟨HW.out.trans (hB.mono HW.out.size)⟩
            have HWS2 := Aside0.mk hC
            clear hR hB hC
            go_wp2_with fail
            refine (disk_Do.calls Ay cy ys As cs ws2 zs 0 v1 HY.out hcy HWS2.out hcs HDO2.out).mono ?_
            rintro e v2 ⟨v, rfl, hR, hB⟩
            obtain ⟨Az, cz, rfl⟩ := Kd.R_slice hR
            obtain ⟨_, hcz, hC⟩ := Kd.R_reads' hR
            replace HL := Aside0.mk (Kd.C_below HL.out hB)
            replace HM := Aside0.mk (Kd.C_below HM.out hB)
            replace HW : Aside0 (Below w.heap.size w v2) := ⟨HW.out.trans (hB.mono HW.out.size)⟩
            have HZ := Aside0.mk hC
            clear hR hB hC
            clear HY HWS2
            go_wp2_with fail
            refine (disk_Open.calls Az cz zs (savedL l2 l1) 0 v2 HZ.out hcz HOZ.out).mono ?_
            rintro e v3 ⟨v, rfl, hR, hB⟩
            obtain ⟨An, cn, rfl⟩ := Kd.R_slice hR
            obtain ⟨_, hcn, hC⟩ := Kd.R_reads' hR
            replace HL := Aside0.mk (Kd.C_below HL.out hB)
            replace HM := Aside0.mk (Kd.C_below HM.out hB)
            replace HW : Aside0 (Below w.heap.size w v3) := ⟨HW.out.trans (hB.mono HW.out.size)⟩
            have HN := Aside0.mk hC
            clear hR hB hC
            have hml : (mergeP l1 l2).length ≤ 1000000 := by rw [HMS.out]; have := saveP_len (l1 ++ l2); rw [List.length_append] at this; have := H300.out; unfold savedL; omega
            obtain ⟨sv, hsv⟩ : ∃ sv, sv = savedL l2 l1 := ⟨_, rfl⟩
            rw [← hsv] at HN hcn HMS ⊢
            have HSV := Aside0.mk hsv
            clear hsv
            go_wp2_with fail
            refine (merged_P A1 c1 l1 A2 c2 l2 v3 HL.out hc1 HM.out hc2 (by have := H300.out; omega)).mono ?_
            rintro e v4 ⟨Ag, cg, rfl, hcg, hC, hB⟩
            rw [HMS.out] at hC hcg hml ⊢
            replace HN := Aside0.mk (Kd.C_below HN.out hB)
            replace HW : Aside0 (Below w.heap.size w v4) := ⟨HW.out.trans (hB.mono HW.out.size)⟩
            have HG4 := Aside0.mk hC
            clear hC hB
            go_wp2_with fail
            refine (berylref20_SameRecords.calls (sv.length + 1) An cn sv Ag cg sv true v4 HN.out hcn HG4.out hcg (same_recs sv (by omega) _ (Nat.lt_succ_self _))).mono ?_
            rintro e w' ⟨rfl, ⟨nd, rfl⟩⟩
            obtain ⟨v5, hwN⟩ : ∃ v5, v5 = v4.drewN nd := ⟨_, rfl⟩
            have hB : Below v4.heap.size v4 v5 := by rw [hwN]; exact pw_below_drewN (Below.refl _ _) _
            rw [← hwN]
            replace HW : Aside0 (Below w.heap.size w v5) := ⟨HW.out.trans (hB.mono HW.out.size)⟩
            clear hwN hB
            go_wp2_with fail
            go_returns
            exact ⟨rfl, HW.out⟩
        · have HDF : Aside0 (disk_Drop.f ys [num] = some (ws1, 0)) := ⟨by unfold disk_Drop.f; rw [if_pos ⟨HYB.out, by simp⟩, hw]⟩
          clear hdo hxb hdx hrecs1
          clear hw
          go_wp2_with fail
          refine (disk_Drop.calls Ay cy ys (some ⟨wb.heap.size, 0, none⟩) 1 [num] ws1 0 (wb.alloc (.cells #[.int .i64 num] 3)) (Kd.C_alloc HY.out _) hcy (C_lit .i64 [num] 3 wb (by simp) _ rfl) (by simp) HDF.out).mono ?_
          rintro e u1 ⟨v, rfl, hR, hB0⟩
          obtain ⟨Ad, cd, rfl⟩ := Kd.R_slice hR
          obtain ⟨_, hcd, hC⟩ := Kd.R_reads' hR
          have hB : Below wb.heap.size wb u1 := (below_alloc (Below.refl _ _) _).trans (hB0.mono (by simp))
          replace HL := Aside0.mk (Kd.C_below HL.out hB)
          replace HM := Aside0.mk (Kd.C_below HM.out hB)
          replace HY := Aside0.mk (Kd.C_below HY.out hB)
          replace HW : Aside0 (Below w.heap.size w u1) := ⟨HW.out.trans (hB.mono HW.out.size)⟩
          have HWD := Aside0.mk hC
          clear hR hB hB0 hC
          rcases save_cases HYB.out HDY.out HRECS.out HASK.out HB1.out l2 HB2.out with ⟨ec, hec, hw⟩ | ⟨ha2, j2, st2, ws2, zs, hw, hdo, hzb, hdz, hrecs2⟩
          · have HSF : Aside0 (disk_Save.f ys l2 = some ([], ec)) := ⟨by unfold disk_Save.f; rw [if_pos ⟨HYB.out, by have := H300.out; omega⟩, hw]⟩
            have dec : (ec != 0) = true := by rw [bne_iff_ne]; exact hec
            clear hw hec
            go_wp2_with fail
            refine (disk_Save.calls Ay cy ys A2 c2 l2 [] ec u1 HY.out hcy HM.out hc2 HSF.out).mono ?_
            rintro e v1 ⟨v, rfl, hR, hB⟩
            obtain ⟨As, cs, rfl⟩ := Kd.R_slice hR
            obtain ⟨_, hcs, hC⟩ := Kd.R_reads' hR
            replace HY := Aside0.mk (Kd.C_below HY.out hB)
            replace HW : Aside0 (Below w.heap.size w v1) := ⟨HW.out.trans (hB.mono HW.out.size)⟩
            have HWS2 := Aside0.mk hC
            clear hR hB hC
            simp only [List.length_nil]
            go_wp2_with fail
            go_returns
            exact ⟨rfl, HW.out⟩
          · have HSF : Aside0 (disk_Save.f ys l2 = some (ws2, 0)) := ⟨by unfold disk_Save.f; rw [if_pos ⟨HYB.out, by have := H300.out; omega⟩, hw]⟩
            have HDO2 := Aside0.mk hdo
            have HMS : Aside0 (mergeP l1 l2 = savedL l2 l1) := ⟨merge_saved (asked_inc HASK.out).2 (asked_inc ha2).2⟩
            have HOZ : Aside0 (disk_Open.f zs = some (savedL l2 l1, 0)) := ⟨by unfold disk_Open.f; rw [if_pos hzb, hdz]; simp only [hrecs2]⟩
            clear hw hdo hzb hdz hrecs2 ha2
            go_wp2_with fail
            refine (disk_Save.calls Ay cy ys A2 c2 l2 ws2 0 u1 HY.out hcy HM.out hc2 HSF.out).mono ?_
            rintro e v1 ⟨v, rfl, hR, hB⟩
            obtain ⟨As, cs, rfl⟩ := Kd.R_slice hR
            obtain ⟨_, hcs, hC⟩ := Kd.R_reads' hR
            replace HY := Aside0.mk (Kd.C_below HY.out hB)
            replace HL := Aside0.mk (Kd.C_below HL.out hB)
            replace HM := Aside0.mk (Kd.C_below HM.out hB)
            replace HW : Aside0 (Below w.heap.size w v1) := ⟨HW.out.trans (hB.mono HW.out.size)⟩
            have HWS2 := Aside0.mk hC
            clear hR hB hC
            go_wp2_with fail
            refine (disk_Do.calls Ay cy ys As cs ws2 zs 0 v1 HY.out hcy HWS2.out hcs HDO2.out).mono ?_
            rintro e v2 ⟨v, rfl, hR, hB⟩
            obtain ⟨Az, cz, rfl⟩ := Kd.R_slice hR
            obtain ⟨_, hcz, hC⟩ := Kd.R_reads' hR
            replace HL := Aside0.mk (Kd.C_below HL.out hB)
            replace HM := Aside0.mk (Kd.C_below HM.out hB)
            replace HW : Aside0 (Below w.heap.size w v2) := ⟨HW.out.trans (hB.mono HW.out.size)⟩
            have HZ := Aside0.mk hC
            clear hR hB hC
            clear HY HWS2
            go_wp2_with fail
            refine (disk_Open.calls Az cz zs (savedL l2 l1) 0 v2 HZ.out hcz HOZ.out).mono ?_
            rintro e v3 ⟨v, rfl, hR, hB⟩
            obtain ⟨An, cn, rfl⟩ := Kd.R_slice hR
            obtain ⟨_, hcn, hC⟩ := Kd.R_reads' hR
            replace HL := Aside0.mk (Kd.C_below HL.out hB)
            replace HM := Aside0.mk (Kd.C_below HM.out hB)
            replace HW : Aside0 (Below w.heap.size w v3) := ⟨HW.out.trans (hB.mono HW.out.size)⟩
            have HN := Aside0.mk hC
            clear hR hB hC
            have hml : (mergeP l1 l2).length ≤ 1000000 := by rw [HMS.out]; have := saveP_len (l1 ++ l2); rw [List.length_append] at this; have := H300.out; unfold savedL; omega
            obtain ⟨sv, hsv⟩ : ∃ sv, sv = savedL l2 l1 := ⟨_, rfl⟩
            rw [← hsv] at HN hcn HMS ⊢
            have HSV := Aside0.mk hsv
            clear hsv
            go_wp2_with fail
            refine (merged_P A1 c1 l1 A2 c2 l2 v3 HL.out hc1 HM.out hc2 (by have := H300.out; omega)).mono ?_
            rintro e v4 ⟨Ag, cg, rfl, hcg, hC, hB⟩
            rw [HMS.out] at hC hcg hml ⊢
            replace HN := Aside0.mk (Kd.C_below HN.out hB)
            replace HW : Aside0 (Below w.heap.size w v4) := ⟨HW.out.trans (hB.mono HW.out.size)⟩
            have HG4 := Aside0.mk hC
            clear hC hB
            go_wp2_with fail
            refine (berylref20_SameRecords.calls (sv.length + 1) An cn sv Ag cg sv true v4 HN.out hcn HG4.out hcg (same_recs sv (by omega) _ (Nat.lt_succ_self _))).mono ?_
            rintro e w' ⟨rfl, ⟨nd, rfl⟩⟩
            obtain ⟨v5, hwN⟩ : ∃ v5, v5 = v4.drewN nd := ⟨_, rfl⟩
            have hB : Below v4.heap.size v4 v5 := by rw [hwN]; exact pw_below_drewN (Below.refl _ _) _
            rw [← hwN]
            replace HW : Aside0 (Below w.heap.size w v5) := ⟨HW.out.trans (hB.mono HW.out.size)⟩
            clear hwN hB
            go_wp2_with fail
            go_returns
            exact ⟨rfl, HW.out⟩
      · have HLN : Aside0 (disk_Load.f ys num = some ([], 3)) := ⟨by unfold disk_Load.f; rw [if_pos HYB.out, HDY.out]; simp only [HRECS.out]; exact congrArg some hld⟩
        rw [hfd]
        clear hld hfd
        go_wp2_with fail
        refine (disk_Load.calls Ay cy ys num [] 3 wr HY.out hcy HLN.out).mono ?_
        rintro e wb ⟨v, rfl, hR, hB⟩
        obtain ⟨Af, cf, rfl⟩ := Kd.R_slice hR
        obtain ⟨_, hcf, hC⟩ := Kd.R_reads' hR
        replace HL := Aside0.mk (Kd.C_below HL.out hB)
        replace HM := Aside0.mk (Kd.C_below HM.out hB)
        replace HY := Aside0.mk (Kd.C_below HY.out hB)
        replace HW : Aside0 (Below w.heap.size w wb) := ⟨HW.out.trans (hB.mono HW.out.size)⟩
        have HFB := Aside0.mk hC
        clear hR hB hC
        clear HFB
        simp only [List.length_nil]
        rcases drop_cases HYB.out HDY.out HRECS.out HASK.out HB1.out [num] with hw | ⟨j1, st1, ws1, xs1, hw, hdo, hxb, hdx, hrecs1⟩
        · have HDF : Aside0 (disk_Drop.f ys [num] = some ([], 2)) := ⟨by unfold disk_Drop.f; rw [if_pos ⟨HYB.out, by simp⟩, hw]⟩
          clear hw
          go_wp2_with fail
          refine (disk_Drop.calls Ay cy ys (some ⟨wb.heap.size, 0, none⟩) 1 [num] [] 2 (wb.alloc (.cells #[.int .i64 num] 3)) (Kd.C_alloc HY.out _) hcy (C_lit .i64 [num] 3 wb (by simp) _ rfl) (by simp) HDF.out).mono ?_
          rintro e u1 ⟨v, rfl, hR, hB0⟩
          obtain ⟨Ad, cd, rfl⟩ := Kd.R_slice hR
          obtain ⟨_, hcd, hC⟩ := Kd.R_reads' hR
          have hB : Below wb.heap.size wb u1 := (below_alloc (Below.refl _ _) _).trans (hB0.mono (by simp))
          replace HL := Aside0.mk (Kd.C_below HL.out hB)
          replace HM := Aside0.mk (Kd.C_below HM.out hB)
          replace HY := Aside0.mk (Kd.C_below HY.out hB)
          replace HW : Aside0 (Below w.heap.size w u1) := ⟨HW.out.trans (hB.mono HW.out.size)⟩
          have HWD := Aside0.mk hC
          clear hR hB hB0 hC
          simp only [List.length_nil]
          rcases save_cases HYB.out HDY.out HRECS.out HASK.out HB1.out l2 HB2.out with ⟨ec, hec, hw⟩ | ⟨ha2, j2, st2, ws2, zs, hw, hdo, hzb, hdz, hrecs2⟩
          · have HSF : Aside0 (disk_Save.f ys l2 = some ([], ec)) := ⟨by unfold disk_Save.f; rw [if_pos ⟨HYB.out, by have := H300.out; omega⟩, hw]⟩
            have dec : (ec != 0) = true := by rw [bne_iff_ne]; exact hec
            clear hw hec
            go_wp2_with fail
            refine (disk_Save.calls Ay cy ys A2 c2 l2 [] ec u1 HY.out hcy HM.out hc2 HSF.out).mono ?_
            rintro e v1 ⟨v, rfl, hR, hB⟩
            obtain ⟨As, cs, rfl⟩ := Kd.R_slice hR
            obtain ⟨_, hcs, hC⟩ := Kd.R_reads' hR
            replace HY := Aside0.mk (Kd.C_below HY.out hB)
            replace HW : Aside0 (Below w.heap.size w v1) := ⟨HW.out.trans (hB.mono HW.out.size)⟩
            have HWS2 := Aside0.mk hC
            clear hR hB hC
            simp only [List.length_nil]
            go_wp2_with fail
            go_returns
            exact ⟨rfl, HW.out⟩
          · have HSF : Aside0 (disk_Save.f ys l2 = some (ws2, 0)) := ⟨by unfold disk_Save.f; rw [if_pos ⟨HYB.out, by have := H300.out; omega⟩, hw]⟩
            have HDO2 := Aside0.mk hdo
            have HMS : Aside0 (mergeP l1 l2 = savedL l2 l1) := ⟨merge_saved (asked_inc HASK.out).2 (asked_inc ha2).2⟩
            have HOZ : Aside0 (disk_Open.f zs = some (savedL l2 l1, 0)) := ⟨by unfold disk_Open.f; rw [if_pos hzb, hdz]; simp only [hrecs2]⟩
            clear hw hdo hzb hdz hrecs2 ha2
            go_wp2_with fail
            refine (disk_Save.calls Ay cy ys A2 c2 l2 ws2 0 u1 HY.out hcy HM.out hc2 HSF.out).mono ?_
            rintro e v1 ⟨v, rfl, hR, hB⟩
            obtain ⟨As, cs, rfl⟩ := Kd.R_slice hR
            obtain ⟨_, hcs, hC⟩ := Kd.R_reads' hR
            replace HY := Aside0.mk (Kd.C_below HY.out hB)
            replace HL := Aside0.mk (Kd.C_below HL.out hB)
            replace HM := Aside0.mk (Kd.C_below HM.out hB)
            replace HW : Aside0 (Below w.heap.size w v1) := ⟨HW.out.trans (hB.mono HW.out.size)⟩
            have HWS2 := Aside0.mk hC
            clear hR hB hC
            go_wp2_with fail
            refine (disk_Do.calls Ay cy ys As cs ws2 zs 0 v1 HY.out hcy HWS2.out hcs HDO2.out).mono ?_
            rintro e v2 ⟨v, rfl, hR, hB⟩
            obtain ⟨Az, cz, rfl⟩ := Kd.R_slice hR
            obtain ⟨_, hcz, hC⟩ := Kd.R_reads' hR
            replace HL := Aside0.mk (Kd.C_below HL.out hB)
            replace HM := Aside0.mk (Kd.C_below HM.out hB)
            replace HW : Aside0 (Below w.heap.size w v2) := ⟨HW.out.trans (hB.mono HW.out.size)⟩
            have HZ := Aside0.mk hC
            clear hR hB hC
            clear HY HWS2
            go_wp2_with fail
            refine (disk_Open.calls Az cz zs (savedL l2 l1) 0 v2 HZ.out hcz HOZ.out).mono ?_
            rintro e v3 ⟨v, rfl, hR, hB⟩
            obtain ⟨An, cn, rfl⟩ := Kd.R_slice hR
            obtain ⟨_, hcn, hC⟩ := Kd.R_reads' hR
            replace HL := Aside0.mk (Kd.C_below HL.out hB)
            replace HM := Aside0.mk (Kd.C_below HM.out hB)
            replace HW : Aside0 (Below w.heap.size w v3) := ⟨HW.out.trans (hB.mono HW.out.size)⟩
            have HN := Aside0.mk hC
            clear hR hB hC
            have hml : (mergeP l1 l2).length ≤ 1000000 := by rw [HMS.out]; have := saveP_len (l1 ++ l2); rw [List.length_append] at this; have := H300.out; unfold savedL; omega
            obtain ⟨sv, hsv⟩ : ∃ sv, sv = savedL l2 l1 := ⟨_, rfl⟩
            rw [← hsv] at HN hcn HMS ⊢
            have HSV := Aside0.mk hsv
            clear hsv
            go_wp2_with fail
            refine (merged_P A1 c1 l1 A2 c2 l2 v3 HL.out hc1 HM.out hc2 (by have := H300.out; omega)).mono ?_
            rintro e v4 ⟨Ag, cg, rfl, hcg, hC, hB⟩
            rw [HMS.out] at hC hcg hml ⊢
            replace HN := Aside0.mk (Kd.C_below HN.out hB)
            replace HW : Aside0 (Below w.heap.size w v4) := ⟨HW.out.trans (hB.mono HW.out.size)⟩
            have HG4 := Aside0.mk hC
            clear hC hB
            go_wp2_with fail
            refine (berylref20_SameRecords.calls (sv.length + 1) An cn sv Ag cg sv true v4 HN.out hcn HG4.out hcg (same_recs sv (by omega) _ (Nat.lt_succ_self _))).mono ?_
            rintro e w' ⟨rfl, ⟨nd, rfl⟩⟩
            obtain ⟨v5, hwN⟩ : ∃ v5, v5 = v4.drewN nd := ⟨_, rfl⟩
            have hB : Below v4.heap.size v4 v5 := by rw [hwN]; exact pw_below_drewN (Below.refl _ _) _
            rw [← hwN]
            replace HW : Aside0 (Below w.heap.size w v5) := ⟨HW.out.trans (hB.mono HW.out.size)⟩
            clear hwN hB
            go_wp2_with fail
            go_returns
            exact ⟨rfl, HW.out⟩
        · have HDF : Aside0 (disk_Drop.f ys [num] = some (ws1, 0)) := ⟨by unfold disk_Drop.f; rw [if_pos ⟨HYB.out, by simp⟩, hw]⟩
          have HDO1 := Aside0.mk hdo
          have HOX : Aside0 (disk_Open.f xs1 = some (l1, 0)) := ⟨by unfold disk_Open.f; rw [if_pos hxb, hdx]; simp only [hrecs1, hleft]⟩
          clear hdo hxb hdx hrecs1
          clear hw
          go_wp2_with fail
          refine (disk_Drop.calls Ay cy ys (some ⟨wb.heap.size, 0, none⟩) 1 [num] ws1 0 (wb.alloc (.cells #[.int .i64 num] 3)) (Kd.C_alloc HY.out _) hcy (C_lit .i64 [num] 3 wb (by simp) _ rfl) (by simp) HDF.out).mono ?_
          rintro e u1 ⟨v, rfl, hR, hB0⟩
          obtain ⟨Ad, cd, rfl⟩ := Kd.R_slice hR
          obtain ⟨_, hcd, hC⟩ := Kd.R_reads' hR
          have hB : Below wb.heap.size wb u1 := (below_alloc (Below.refl _ _) _).trans (hB0.mono (by simp))
          replace HL := Aside0.mk (Kd.C_below HL.out hB)
          replace HM := Aside0.mk (Kd.C_below HM.out hB)
          replace HY := Aside0.mk (Kd.C_below HY.out hB)
          replace HW : Aside0 (Below w.heap.size w u1) := ⟨HW.out.trans (hB.mono HW.out.size)⟩
          have HWD := Aside0.mk hC
          clear hR hB hB0 hC
          go_wp2_with fail
          refine (disk_Do.calls Ay cy ys Ad cd ws1 xs1 0 u1 HY.out hcy HWD.out hcd HDO1.out).mono ?_
          rintro e u2 ⟨v, rfl, hR, hB⟩
          obtain ⟨Ax, cx, rfl⟩ := Kd.R_slice hR
          obtain ⟨_, hcx, hC⟩ := Kd.R_reads' hR
          replace HL := Aside0.mk (Kd.C_below HL.out hB)
          replace HM := Aside0.mk (Kd.C_below HM.out hB)
          replace HY := Aside0.mk (Kd.C_below HY.out hB)
          replace HW : Aside0 (Below w.heap.size w u2) := ⟨HW.out.trans (hB.mono HW.out.size)⟩
          have HX := Aside0.mk hC
          clear hR hB hC
          clear HWD
          go_wp2_with fail
          refine (disk_Open.calls Ax cx xs1 l1 0 u2 HX.out hcx HOX.out).mono ?_
          rintro e u3 ⟨v, rfl, hR, hB⟩
          obtain ⟨Ah, ch, rfl⟩ := Kd.R_slice hR
          obtain ⟨_, hch, hC⟩ := Kd.R_reads' hR
          replace HL := Aside0.mk (Kd.C_below HL.out hB)
          replace HM := Aside0.mk (Kd.C_below HM.out hB)
          replace HY := Aside0.mk (Kd.C_below HY.out hB)
          replace HW : Aside0 (Below w.heap.size w u3) := ⟨HW.out.trans (hB.mono HW.out.size)⟩
          have HH := Aside0.mk hC
          clear hR hB hC
          clear HX
          go_wp2_with fail
          refine (berylref20_SameRecords.calls (l1.length + 1) Ah ch l1 A1 c1 l1 true u3 HH.out hch HL.out hc1 (same_recs l1 (by have := H300.out; omega) _ (Nat.lt_succ_self _))).mono ?_
          rintro e w' ⟨rfl, ⟨nd, rfl⟩⟩
          obtain ⟨u4, hwN⟩ : ∃ u4, u4 = u3.drewN nd := ⟨_, rfl⟩
          have hB : Below u3.heap.size u3 u4 := by rw [hwN]; exact pw_below_drewN (Below.refl _ _) _
          rw [← hwN]
          replace HL := Aside0.mk (Kd.C_below HL.out hB)
          replace HM := Aside0.mk (Kd.C_below HM.out hB)
          replace HY := Aside0.mk (Kd.C_below HY.out hB)
          replace HW : Aside0 (Below w.heap.size w u4) := ⟨HW.out.trans (hB.mono HW.out.size)⟩
          clear hwN hB
          clear HH
          rcases save_cases HYB.out HDY.out HRECS.out HASK.out HB1.out l2 HB2.out with ⟨ec, hec, hw⟩ | ⟨ha2, j2, st2, ws2, zs, hw, hdo, hzb, hdz, hrecs2⟩
          · have HSF : Aside0 (disk_Save.f ys l2 = some ([], ec)) := ⟨by unfold disk_Save.f; rw [if_pos ⟨HYB.out, by have := H300.out; omega⟩, hw]⟩
            have dec : (ec != 0) = true := by rw [bne_iff_ne]; exact hec
            clear hw hec
            go_wp2_with fail
            refine (disk_Save.calls Ay cy ys A2 c2 l2 [] ec u4 HY.out hcy HM.out hc2 HSF.out).mono ?_
            rintro e v1 ⟨v, rfl, hR, hB⟩
            obtain ⟨As, cs, rfl⟩ := Kd.R_slice hR
            obtain ⟨_, hcs, hC⟩ := Kd.R_reads' hR
            replace HY := Aside0.mk (Kd.C_below HY.out hB)
            replace HW : Aside0 (Below w.heap.size w v1) := ⟨HW.out.trans (hB.mono HW.out.size)⟩
            have HWS2 := Aside0.mk hC
            clear hR hB hC
            simp only [List.length_nil]
            go_wp2_with fail
            go_returns
            exact ⟨rfl, HW.out⟩
          · have HSF : Aside0 (disk_Save.f ys l2 = some (ws2, 0)) := ⟨by unfold disk_Save.f; rw [if_pos ⟨HYB.out, by have := H300.out; omega⟩, hw]⟩
            have HDO2 := Aside0.mk hdo
            have HMS : Aside0 (mergeP l1 l2 = savedL l2 l1) := ⟨merge_saved (asked_inc HASK.out).2 (asked_inc ha2).2⟩
            have HOZ : Aside0 (disk_Open.f zs = some (savedL l2 l1, 0)) := ⟨by unfold disk_Open.f; rw [if_pos hzb, hdz]; simp only [hrecs2]⟩
            clear hw hdo hzb hdz hrecs2 ha2
            go_wp2_with fail
            refine (disk_Save.calls Ay cy ys A2 c2 l2 ws2 0 u4 HY.out hcy HM.out hc2 HSF.out).mono ?_
            rintro e v1 ⟨v, rfl, hR, hB⟩
            obtain ⟨As, cs, rfl⟩ := Kd.R_slice hR
            obtain ⟨_, hcs, hC⟩ := Kd.R_reads' hR
            replace HY := Aside0.mk (Kd.C_below HY.out hB)
            replace HL := Aside0.mk (Kd.C_below HL.out hB)
            replace HM := Aside0.mk (Kd.C_below HM.out hB)
            replace HW : Aside0 (Below w.heap.size w v1) := ⟨HW.out.trans (hB.mono HW.out.size)⟩
            have HWS2 := Aside0.mk hC
            clear hR hB hC
            go_wp2_with fail
            refine (disk_Do.calls Ay cy ys As cs ws2 zs 0 v1 HY.out hcy HWS2.out hcs HDO2.out).mono ?_
            rintro e v2 ⟨v, rfl, hR, hB⟩
            obtain ⟨Az, cz, rfl⟩ := Kd.R_slice hR
            obtain ⟨_, hcz, hC⟩ := Kd.R_reads' hR
            replace HL := Aside0.mk (Kd.C_below HL.out hB)
            replace HM := Aside0.mk (Kd.C_below HM.out hB)
            replace HW : Aside0 (Below w.heap.size w v2) := ⟨HW.out.trans (hB.mono HW.out.size)⟩
            have HZ := Aside0.mk hC
            clear hR hB hC
            clear HY HWS2
            go_wp2_with fail
            refine (disk_Open.calls Az cz zs (savedL l2 l1) 0 v2 HZ.out hcz HOZ.out).mono ?_
            rintro e v3 ⟨v, rfl, hR, hB⟩
            obtain ⟨An, cn, rfl⟩ := Kd.R_slice hR
            obtain ⟨_, hcn, hC⟩ := Kd.R_reads' hR
            replace HL := Aside0.mk (Kd.C_below HL.out hB)
            replace HM := Aside0.mk (Kd.C_below HM.out hB)
            replace HW : Aside0 (Below w.heap.size w v3) := ⟨HW.out.trans (hB.mono HW.out.size)⟩
            have HN := Aside0.mk hC
            clear hR hB hC
            have hml : (mergeP l1 l2).length ≤ 1000000 := by rw [HMS.out]; have := saveP_len (l1 ++ l2); rw [List.length_append] at this; have := H300.out; unfold savedL; omega
            obtain ⟨sv, hsv⟩ : ∃ sv, sv = savedL l2 l1 := ⟨_, rfl⟩
            rw [← hsv] at HN hcn HMS ⊢
            have HSV := Aside0.mk hsv
            clear hsv
            go_wp2_with fail
            refine (merged_P A1 c1 l1 A2 c2 l2 v3 HL.out hc1 HM.out hc2 (by have := H300.out; omega)).mono ?_
            rintro e v4 ⟨Ag, cg, rfl, hcg, hC, hB⟩
            rw [HMS.out] at hC hcg hml ⊢
            replace HN := Aside0.mk (Kd.C_below HN.out hB)
            replace HW : Aside0 (Below w.heap.size w v4) := ⟨HW.out.trans (hB.mono HW.out.size)⟩
            have HG4 := Aside0.mk hC
            clear hC hB
            go_wp2_with fail
            refine (berylref20_SameRecords.calls (sv.length + 1) An cn sv Ag cg sv true v4 HN.out hcn HG4.out hcg (same_recs sv (by omega) _ (Nat.lt_succ_self _))).mono ?_
            rintro e w' ⟨rfl, ⟨nd, rfl⟩⟩
            obtain ⟨v5, hwN⟩ : ∃ v5, v5 = v4.drewN nd := ⟨_, rfl⟩
            have hB : Below v4.heap.size v4 v5 := by rw [hwN]; exact pw_below_drewN (Below.refl _ _) _
            rw [← hwN]
            replace HW : Aside0 (Below w.heap.size w v5) := ⟨HW.out.trans (hB.mono HW.out.size)⟩
            clear hwN hB
            go_wp2_with fail
            go_returns
            exact ⟨rfl, HW.out⟩
end Go.Proofs.Ytcdpkdehogcjnaa.Print

namespace Go.Proofs.Ytcdpkdehogcjnaa.diskBack
open Go Go.ChangeShapes Go.WideShapes Go.ChangeAt Go.RowKit Go.Proofs.Ytcdpkdehogcjnaa.Print
open Go.Proofs.YtcdpkdehogcjnaaW.PrintWords
theorem own : ownKnob Try.prog.godebug = none := by kernel_rfl
theorem laidOut : laidOutB Try.prog = true := by kernel_rfl

theorem small {H : Type} {ts : List TypeId} {ds : List (DataW H)} (hsz : (DataW.weightsEach Try.prog ts ds).all (· ≤ reachBytes) = true) {j : Nat} {t : TypeId} {d : DataW H} (ht : ts[j]? = some t) (hd : ds[j]? = some d) : ∀ n ∈ d.weights Try.prog t, n ≤ reachBytes := by
  intro n hn
  have := List.all_eq_true.1 hsz _ (DataW.weights_mem_each ht hd n hn)
  simpa using this

theorem bytes_of (xs : List Int) (h : ∀ b ∈ xs, (Lit.int .u8 b).wf = true) : IsBytes xs := by
  intro b hb
  have := h b hb
  simp [Lit.wf, IntKind.min, IntKind.max, IntKind.signed, IntKind.bits] at this
  omega

set_option maxRecDepth 100000 in
theorem lifted (os : Os) (started : os.Started) (H : Type) (enc : TypeId × Value → H) :
    ReturnsInHanded {} Try.checked os 7 .any (Rows.diskBackSpec.pre6 enc Try.prog Try.f7 Rows.diskBackRow.domain false) (Rows.diskBackSpec.post enc Try.prog Try.f7 false true false false) := by
  refine returnsInHanded_of_change_sized (C := Try.checked) own started (by kernel_rfl) Try.func7
    (ChangeSpec.witness6 (enc := enc) (C := Try.checked) false ⟨#[], #[.slice none 0 0, .slice none 0 0, .slice none 0 0, .int .i64 0], []⟩ 8 (by kernel_rfl) (by kernel_rfl) (by kernel_rfl) (by kernel_rfl)) ?_
  intro W base args ds gs before hval0 hW hcnd hsz0 _
  have hsz : (DataW.weightsEach Try.prog (Try.f7.params.toList ++ Rows.diskBackSpec.plain.varTypes Try.prog) (ds ++ gs)).all (· ≤ reachBytes) = true := hsz0
  have hval : ∀ (j : Nat) t v, Try.f7.params[j]? = some t → args[j]? = some v → Value.okWide Try.prog W .any base t v := hval0
  have hW' := hW
  obtain ⟨p, q, hA0, hV, rfl, hfz, hnd⟩ := hW
  have hA : DataW.TrodAll enc Try.prog W 0 (fun _ => true) true Try.f7.params.toList args.toList ds p := hA0
  rw [Try.params7] at hA hval hsz
  obtain ⟨v0, vs0, d0, ds0, p0, q0, hargs, rfl, rfl, h0, r0⟩ := trodAll_cons hA
  obtain ⟨v1, vs1, d1, ds1, p1, q1, rfl, rfl, rfl, h1, r1⟩ := trodAll_cons r0
  obtain ⟨v2, vs2, d2, ds2, p2, q2, rfl, rfl, rfl, h2, r2⟩ := trodAll_cons r1
  obtain ⟨v3, vs3, d3, ds3, p3, q3, rfl, rfl, rfl, h3, r3⟩ := trodAll_cons r2
  obtain ⟨rfl, rfl, rfl⟩ := trodAll_nil r3
  obtain rfl : args = #[v0, v1, v2, v3] := by cases args; simp_all
  obtain ⟨rfl, rfl⟩ := trodVars_none hV
  obtain ⟨a0, len0, cap0, rfl⟩ := okWide_slice Try.underlying22 (hval 0 22 v0 rfl rfl)
  obtain ⟨a1, len1, cap1, rfl⟩ := okWide_slice Try.underlying23 (hval 1 23 v1 rfl rfl)
  obtain ⟨a2, len2, cap2, rfl⟩ := okWide_slice Try.underlying23 (hval 2 23 v2 rfl rfl)
  obtain ⟨a3, rfl, rfl, rfl, w3⟩ := open_int Try.underlying3 (hval 3 3 v3 rfl rfl) h3
  have k0 := h0
  have lt0 : ∀ x ∈ p0, x.block < W.heap.size := by obtain ⟨m, hm⟩ := k0; exact DataW.trod_lt m _ _ _ hm
  have k1 := h1
  have lt1 : ∀ x ∈ p1, x.block < W.heap.size := by obtain ⟨m, hm⟩ := k1; exact DataW.trod_lt m _ _ _ hm
  have k2 := h2
  have lt2 : ∀ x ∈ p2, x.block < W.heap.size := by obtain ⟨m, hm⟩ := k2; exact DataW.trod_lt m _ _ _ hm
  obtain ⟨A0, c0, l0, e0, hc0, hr0, hz0, hw0⟩ := (by obtain ⟨m, hm⟩ := h0; exact lift_bytes (v := .slice a0 len0 cap0) (by simpa [Value.cells] using hm) (small hsz (j := 0) rfl rfl) : ∃ (A : Option Addr) (c : Nat) (xs : List Int), Value.slice a0 len0 cap0 = .slice A xs.length c ∧ xs.length ≤ c ∧ Kd.C (Kd.int .u8) W A xs.length xs ∧ xs.length ≤ 140737488351232 ∧ ∀ b ∈ xs, (Lit.int .u8 b).wf = true)
  injection e0 with e00 e01 e02
  subst e00 e01 e02
  obtain ⟨l1, e1, hc1, hr1, hz1, hw1⟩ := lift_recs h1 (small hsz (j := 1) rfl rfl)
  subst e1
  obtain ⟨l2, e2, hc2, hr2, hz2, hw2⟩ := lift_recs h2 (small hsz (j := 2) rfl rfl)
  subst e2
  clear hA0 hval0 hsz0 hsz
  refine (back_walk a0 cap0 l0 a1 cap1 l1 a2 cap2 l2 a3 W hr0 hc0 hr1 hc1 hr2 hc2 (bytes_of l0 hw0) hz1 hw1 hz2 hw2).mono fun e W' ⟨he, bel⟩ => ?_
  subst he
  exact ⟨_, rfl, _, _, _, [], _, [], hW', trodAll_mk1 (shut_bool Try.underlying4 _), (trodAll_cons_mk (Below.trod laidOut (by kernel_rfl) (of_decide_eq_true (by kernel_rfl)) k0 bel lt0) (trodAll_cons_mk (Below.trod laidOut (by kernel_rfl) (of_decide_eq_true (by kernel_rfl)) k1 bel lt1) (trodAll_cons_mk (Below.trod laidOut (by kernel_rfl) (of_decide_eq_true (by kernel_rfl)) k2 bel lt2) (trodAll_cons_mk (shut_int Try.underlying3 w3) trodAll_mk0)))), rfl, bel.frame _, fun h => by cases h⟩
theorem over : Rows.diskBackRow.holds Try.pinned (OpenSpec.ofChange Rows.diskBackSpec) :=
  OpenClaim.holds_of_wide 7 Try.f7 rfl rfl rfl rfl rfl rfl rfl ⟨rfl, rfl, rfl, rfl, rfl⟩ rfl rfl rfl rfl rfl (by kernel_rfl) Try.func7 (by kernel_rfl)
    (of_decide_eq_true (by kernel_rfl)) (by unfold Func.isWrapper; first | (rw [if_pos (by decide +kernel)]; kernel_rfl) | (rw [if_neg (by decide +kernel)]; exact ⟨rfl, rfl⟩))
    (fun os started H enc _ => lifted os started H enc)
theorem proved : Rows.DiskBackSaid := over
#print axioms proved
end Go.Proofs.Ytcdpkdehogcjnaa.diskBack
namespace Go.Proofs.Ytcdpkdehogcjnaa
/-- The row, under a short name, for the claim. -/
theorem diskBack_holds : Rows.DiskBackSaid := diskBack.proved
end Go.Proofs.Ytcdpkdehogcjnaa
