/- The walk of SagaClosed: the loop. -/
import Derived.Test.YtaamjpeehejafaaDoorClo1
import Derived.Deep.Cut
import Derived.StillTailTactics
set_option linter.unusedSimpArgs false
set_option linter.unusedVariables false
namespace Go.Proofs.YtaamjpeehejafaaDoor
open Go Go.RowKit

/-- the state's box and the graph's -/
structure CloS (w0 : World) (gb : Nat) (s : St) (A1 : Option Addr) (d1 : Nat) (A2 : Option Addr) (d2 : Nat) (A3 : Option Addr) (d3 : Nat) (A4 : Option Addr) (d4 : Nat) (A5 : Option Addr) (d5 : Nat) (A6 : Option Addr) (d6 : Nat) (W : World) : Prop where
  hg : W.heap[w0.heap.size]? = some (.cells #[.int .i64 s.number, .int .i64 s.phase, .slice A1 s.plan.fr.length d1, .slice A2 s.plan.to.length d2, .slice A3 s.plan.steps.length d3, .slice A4 s.plan.before.length d4, .slice A5 s.opn.length d5, .slice A6 s.done.length d6] 31 (0, 0))
  hgr : W.heap[gb]? = some (.cells #[.int .i64 s.plan.steps.length, .slice A4 s.plan.before.length d4] 38 (0, 0))
  row : RowSt W (w0.heap.size + 1) (.slice A1 s.plan.fr.length d1) (.slice A2 s.plan.to.length d2) (.slice A3 s.plan.steps.length d3) (.slice A4 s.plan.before.length d4) (.slice A5 s.opn.length d5) (.slice A6 s.done.length d6) s
  below : Below w0.heap.size w0 W
  lt : w0.heap.size < gb
theorem CloS.bd {w0 : World} {gb : Nat} {s : St} {A1 A2 A3 A4 A5 A6 : Option Addr} {d1 d2 d3 d4 d5 d6 : Nat} {W : World} (h : CloS w0 gb s A1 d1 A2 d2 A3 d3 A4 d4 A5 d5 A6 d6 W) : w0.heap.size < W.heap.size ∧ gb < W.heap.size := by
  have h1 := (Array.getElem?_eq_some_iff.1 h.hg).1
  have h2 := (Array.getElem?_eq_some_iff.1 h.hgr).1
  exact ⟨h1, h2⟩
theorem CloS.keep {w0 : World} {gb : Nat} {s : St} {A1 A2 A3 A4 A5 A6 : Option Addr} {d1 d2 d3 d4 d5 d6 : Nat} {W W' : World} (h : CloS w0 gb s A1 d1 A2 d2 A3 d3 A4 d4 A5 d5 A6 d6 W) (hb : Below W.heap.size W W') : CloS w0 gb s A1 d1 A2 d2 A3 d3 A4 d4 A5 d5 A6 d6 W' :=
  ⟨(hb.block _ h.bd.1).trans h.hg, (hb.block _ h.bd.2).trans h.hgr, h.row.below hb, h.below.trans (hb.mono (by have := h.bd.1; omega)), h.lt⟩
theorem CloS.mk' {w0 : World} {s : St} {A1 A2 A3 A4 A5 A6 : Option Addr} {d1 d2 d3 d4 d5 d6 : Nat} {W W' : World} (hg : W.heap[w0.heap.size]? = some (.cells #[.int .i64 s.number, .int .i64 s.phase, .slice A1 s.plan.fr.length d1, .slice A2 s.plan.to.length d2, .slice A3 s.plan.steps.length d3, .slice A4 s.plan.before.length d4, .slice A5 s.opn.length d5, .slice A6 s.done.length d6] 31 (0, 0)))
    (hrow : RowSt W (w0.heap.size + 1) (.slice A1 s.plan.fr.length d1) (.slice A2 s.plan.to.length d2) (.slice A3 s.plan.steps.length d3) (.slice A4 s.plan.before.length d4) (.slice A5 s.opn.length d5) (.slice A6 s.done.length d6) s)
    (hB : Below w0.heap.size w0 W) (hz : w0.heap.size < W.heap.size) (hb : Below (W.alloc (.cells #[.int .i64 s.plan.steps.length, .slice A4 s.plan.before.length d4] 38 (0, 0))).heap.size (W.alloc (.cells #[.int .i64 s.plan.steps.length, .slice A4 s.plan.before.length d4] 38 (0, 0))) W') :
    CloS w0 W.heap.size s A1 d1 A2 d2 A3 d3 A4 d4 A5 d5 A6 d6 W' := by
  have h0 : CloS w0 W.heap.size s A1 d1 A2 d2 A3 d3 A4 d4 A5 d5 A6 d6 (W.alloc (.cells #[.int .i64 s.plan.steps.length, .slice A4 s.plan.before.length d4] 38 (0, 0))) :=
    ⟨(Below.heap_alloc _ _ _ hz).trans hg, heap_alloc_new _ _, hrow.below (Below.box _ _), Below.alloc hB (by omega) _, hz⟩
  exact h0.keep hb
theorem nodup_next2 {s : St} (h : s.good) (j : Nat) (hj : j < s.opn.length) : bit (setOf (s.done ++ s.opn.take j)) s.opn[j].toNat = false := by
  have hl : s.done.length + j < (s.done ++ s.opn).length := by simp; omega
  have := nodup_next (xs := s.done ++ s.opn) (fun k hk => by
    have := h.small
    rcases List.mem_append.1 hk with hk | hk
    · have := h.drange k hk; omega
    · have := h.orange k hk; omega) (List.nodup_append.2 ⟨h.dnodup, h.onodup, fun a ha b hb e => h.apart b hb (e ▸ ha)⟩) (s.done.length + j) hl
  rw [List.take_append, List.getElem_append_right (by omega), List.take_of_length_le (by omega)] at this
  simp only [Nat.add_sub_cancel_left] at this
  exact this
theorem setOf_next2 (xs ys : List Int) (j : Nat) (hj : j < ys.length) : setOf (xs ++ ys.take (j + 1)) = setOf (xs ++ ys.take j) ||| one ys[j].toNat := by
  rw [List.take_succ_eq_append_getElem hj, ← List.append_assoc, setOf_snoc]
set_option maxRecDepth 100000 in
set_option maxHeartbeats 1000000 in
theorem closed_yes (v : Value) (rs : List Rec) (vs : List PV) (w0 : World) (hs : RRecs w0 v rs vs) (hT : Tab w0) (hm : smallB rs 60 = true) :
    Calls Tryd.prog 3 #[v] w0 fun e w' => e = .returned (.bool true) ∧ Below w0.heap.size w0 w' := by
  obtain ⟨A, c, rfl⟩ := hs.cells.len
  have hm2 : rs.all okRec = true ∧ (rs.length : Int) ≤ 60 := by simpa [smallB] using hm
  obtain ⟨hall, hl⟩ := hm2
  have hbd : ∀ r ∈ rs, r.plan.bd := fun r hr => madeOk_bd (List.all_eq_true.1 hall r hr)
  have HBD := hd hbd
  have HS := hd hs; have HT := hd hT; have HM := hd hm
  clear hs hT hm hall hbd
  go_enter Tryd.func3, Tryd.ntmps3
  go_wp2_with (first
    | (go_at_call 6; (with_reducible refine (anchor_c _ HT.out).mono ?_); rintro e w1 ⟨rfl, hb1⟩; have HB1 := hd hb1; clear hb1)
    | (go_at_call 7; (with_reducible refine (small_c _ rs vs _ _ (HS.out.below HB1.out)).mono ?_); rintro e w ⟨rfl, hb2⟩; rw [HM.out]; have HB2 := hd hb2; clear hb2))
  have hbw := Below.step HB1.out HB2.out
  have HBW := hd hbw
  have HS2 := hd (HS.out.below hbw)
  have HT2 := hd (HT.out.below (B := w0.heap.size) hbw HT.out.pos)
  clear HB1 HB2 HS hbw
  go_loopw [5, 6, 7, 8, 9, 11, 12, 14, 22] (fun _ _ _ _ _ _ _ _ i wr => ∃ (k : Nat) (s : St), k ≤ rs.length ∧ i = .int .i64 k ∧ Hid s.good ∧ Hid (s.fits k) ∧ Hid (BoxSt w s wr) ∧ Hid (Below w.heap.size w wr) ∧ w.heap.size < wr.heap.size) (fun _ _ _ _ _ _ _ _ i _ => rs.length - (intOf i).toNat)
  case atStart => exact ⟨0, St.zero, Nat.zero_le _, rfl, good_zero, St.fits.zero, ⟨_, _, _, _, _, _, _, _, _, _, _, _, heap_alloc_new _ _, RowSt.zero _ _⟩, (by repeat (first | (with_reducible refine hd ?_) | (with_reducible exact Below.refl _ _) | (with_reducible assumption) | (with_reducible refine Below.alloc ?_ (by first | (simp; done) | (simp; omega) | omega) _) | (with_reducible refine Below.setCell ?_ (by first | (simp; done) | (simp; omega) | omega) _) | (with_reducible refine Below.drew ?_) | (with_reducible refine Below.drewN ?_ _) | (with_reducible refine Below.step ?_ (by with_reducible assumption)))), by simp⟩
  case round =>
    obtain ⟨k, s, hk, rfl, hgood, hfits, hbox, hB, hz⟩ := hrel
    obtain ⟨A1, d1, A2, d2, A3, d3, A4, d4, A5, d5, A6, d6, hg, hrow⟩ := hbox.out
    have HF := hfits
    have s0 := cell_of_row wr _ 0 _ _ _ hg
    have s1 := cell_of_row wr _ 1 _ _ _ hg
    have s2 := cell_of_row wr _ 2 _ _ _ hg
    have s3 := cell_of_row wr _ 3 _ _ _ hg
    have s4 := cell_of_row wr _ 4 _ _ _ hg
    have s5 := cell_of_row wr _ 5 _ _ _ hg
    have s6 := cell_of_row wr _ 6 _ _ _ hg
    have s7 := cell_of_row wr _ 7 _ _ _ hg
    have z0 := fun j => frozen_of_row wr _ j _ _ hg
    have HG := hd hg; have HROW := hd hrow
    clear hg hrow hbox hfits
    by_cases hlt : k < rs.length
    · obtain ⟨b, off, B1, e1, B2, e2, B3, e3, B4, e4, rfl, hbl, c0, c1, c2, c3, c4, c5, hp⟩ := (HS2.out.below hB.out).at k hlt
      have hpb := HBD.out rs[k] (List.getElem_mem hlt)
      generalize hr : rs[k] = r at c0 c1 c2 c3 c4 c5 hp hpb
      clear hr
      have HPB := hd hpb
      have HP := hd hp
      have HST := hd (HF.out.step r HPB.out)
      have hbx := HF.out.bd (by omega)
      have hby := HST.out.bd (by omega)
      have hnum : -1 ≤ s.number ∧ s.number ≤ 1099511627776 := by have := HF.out.lo; have := HF.out.hi; omega
      have HBX := hd hbx; have HBY := hd hby; have HNUM := hd hnum
      have hnx : (s.take r).2 = 0 → (s.take r).1.good ∧ (s.take r).1.fits (k + 1) := fun h => ⟨good_take hgood.out h, by rw [St.take_ok h]; exact HST.out⟩
      clear hp hbx hby hnum hpb
      have HTK : Hid (∀ w', RSt w' (.slice A1 s.plan.fr.length d1) (.slice A2 s.plan.to.length d2) (.slice A3 s.plan.steps.length d3) (.slice A4 s.plan.before.length d4) (.slice A5 s.opn.length d5) (.slice A6 s.done.length d6) s → RPlan w' (.slice B1 r.plan.fr.length e1) (.slice B2 r.plan.to.length e2) (.slice B3 r.plan.steps.length e3) (.slice B4 r.plan.before.length e4) r.plan → Tab w' → Calls Tryd.prog 8 #[.agg #[.int .i64 s.number, .int .i64 s.phase, .slice A1 s.plan.fr.length d1, .slice A2 s.plan.to.length d2, .slice A3 s.plan.steps.length d3, .slice A4 s.plan.before.length d4, .slice A5 s.opn.length d5, .slice A6 s.done.length d6], .agg #[.int .i64 r.kind, .int .i64 r.step, .slice B1 r.plan.fr.length e1, .slice B2 r.plan.to.length e2, .slice B3 r.plan.steps.length e3, .slice B4 r.plan.before.length e4]] w' (TakePost w' (s.take r).1 (s.take r).2)) :=
        fun w' h1 h2 h3 => take_c _ _ _ _ _ _ _ _ _ _ s r w' h1 h2 h3 HPB.out HBX.out HBY.out HNUM.out
      clear HST HBY HNUM
      have HTK2 := HTK.out
      clear HTK
      generalize s.take r = tk at HTK2 hnx
      obtain ⟨s', er⟩ := tk
      simp only at HTK2 hnx
      have HTK := hd HTK2; have HNX := hd hnx
      clear HTK2 hnx
      have hx0 := hB.out
      have hzz := hx0.size
      go_upto_region 10 with (go_at_call 8; (with_reducible refine (HTK.out _ ((HROW.out.reads HBX.out).below (by repeat (first | (with_reducible refine hd ?_) | (with_reducible exact Below.refl _ _) | (with_reducible assumption) | (with_reducible refine Below.alloc ?_ (by first | (simp; done) | (simp; omega) | omega) _) | (with_reducible refine Below.setCell ?_ (by first | (simp; done) | (simp; omega) | omega) _) | (with_reducible refine Below.drew ?_) | (with_reducible refine Below.drewN ?_ _) | (with_reducible refine Below.step ?_ (by with_reducible assumption))))) (HP.out.below (by repeat (first | (with_reducible refine hd ?_) | (with_reducible exact Below.refl _ _) | (with_reducible assumption) | (with_reducible refine Below.alloc ?_ (by first | (simp; done) | (simp; omega) | omega) _) | (with_reducible refine Below.setCell ?_ (by first | (simp; done) | (simp; omega) | omega) _) | (with_reducible refine Below.drew ?_) | (with_reducible refine Below.drewN ?_ _) | (with_reducible refine Below.step ?_ (by with_reducible assumption))))) (HT2.out.below (B := w.heap.size) (by repeat (first | (with_reducible refine hd ?_) | (with_reducible exact Below.refl _ _) | (with_reducible assumption) | (with_reducible refine Below.alloc ?_ (by first | (simp; done) | (simp; omega) | omega) _) | (with_reducible refine Below.setCell ?_ (by first | (simp; done) | (simp; omega) | omega) _) | (with_reducible refine Below.drew ?_) | (with_reducible refine Below.drewN ?_ _) | (with_reducible refine Below.step ?_ (by with_reducible assumption)))) HT2.out.pos)).mono ?_); rintro e w2 ⟨u1, u2, u3, u4, u5, u6, rfl, hrow2, hb2⟩; obtain ⟨hc2, hf2⟩ := bcell hb2; have hz2 := bgt hb2; have HB2 := hd hb2; obtain ⟨E1, g1, E2, g2, E3, g3, E4, g4, E5, g5, E6, g6, rfl, rfl, rfl, rfl, rfl, rfl⟩ := hrow2.slices; have HROW2 := hd hrow2; clear hb2 hrow2)
      have hz3 : w.heap.size < w2.heap.size := by omega
      have hbo := Below.trans (Below.alloc hx0 hzz _) (HB2.out.mono (by simp; omega))
      have hs2 : RepS w w2.heap.size s s' A1 d1 A2 d2 A3 d3 A4 d4 A5 d5 A6 d6 E1 g1 E2 g2 E3 g3 E4 g4 E5 g5 E6 g6 (w2.alloc (.cells #[.int .i64 s'.number, .int .i64 s'.phase, .slice E1 s'.plan.fr.length g1, .slice E2 s'.plan.to.length g2, .slice E3 s'.plan.steps.length g3, .slice E4 s'.plan.before.length g4, .slice E5 s'.opn.length g5, .slice E6 s'.done.length g6] 31 (0, 0))) :=
        ⟨(Below.heap_alloc _ _ _ hz3).trans ((HB2.out.block _ (by simp; omega)).trans ((Below.heap_alloc _ _ _ (by omega)).trans HG.out)), heap_alloc_new _ _, (HROW.out.below (Below.trans (Below.box _ _) (HB2.out.mono (by simp)))).below (Below.box _ _), (HROW2.out.below (Below.box _ _)).mono (by simp; omega), Below.alloc hbo (by omega) _, hz3, by simp⟩
      refine gen_wp (RepS w w2.heap.size s s' A1 d1 A2 d2 A3 d3 A4 d4 A5 d5 A6 d6 E1 g1 E2 g2 E3 g3 E4 g4 E5 g5 E6 g6) hs2 ?_
      clear hs2 hbo hz3 hx0 hc2 hf2 hz2 HB2 HROW2 HROW HG s0 s1 s2 s3 s4 s5 s6 s7 z0 c0 c1 c2 c3 c4 c5 HTK HP HBX HPB
      generalize w2.heap.size = b7
      clear w2
      intro W hW
      have t0 := cell_of_row W _ 0 _ _ _ hW.hg
      have t1 := cell_of_row W _ 1 _ _ _ hW.hg
      have t2 := cell_of_row W _ 2 _ _ _ hW.hg
      have t3 := cell_of_row W _ 3 _ _ _ hW.hg
      have t4 := cell_of_row W _ 4 _ _ _ hW.hg
      have t5 := cell_of_row W _ 5 _ _ _ hW.hg
      have t6 := cell_of_row W _ 6 _ _ _ hW.hg
      have t7 := cell_of_row W _ 7 _ _ _ hW.hg
      have n0 := cell_of_row W _ 0 _ _ _ hW.h7
      have n1 := cell_of_row W _ 1 _ _ _ hW.h7
      have n2 := cell_of_row W _ 2 _ _ _ hW.h7
      have n3 := cell_of_row W _ 3 _ _ _ hW.h7
      have n4 := cell_of_row W _ 4 _ _ _ hW.h7
      have n5 := cell_of_row W _ 5 _ _ _ hW.h7
      have n6 := cell_of_row W _ 6 _ _ _ hW.h7
      have n7 := cell_of_row W _ 7 _ _ _ hW.h7
      have zz := fun j => frozen_of_row W _ j _ _ hW.hg
      have hzW : w.heap.size < W.heap.size := Nat.lt_trans hW.lt hW.lt7
      have HW := hd hW
      clear hW
      by_cases he : er = 0
      · subst he
        obtain ⟨hgood2, hfits2⟩ := HNX.out rfl
        have HGOOD := hd hgood2; have HFIT := hd hfits2
        clear hgood2 hfits2
        go_upto_region 12 with fail
        have q := eight_grown W w.heap.size (.int .i64 s'.number) (.int .i64 s'.phase) (.slice E1 s'.plan.fr.length g1) (.slice E2 s'.plan.to.length g2) (.slice E3 s'.plan.steps.length g3) (.slice E4 s'.plan.before.length g4) (.slice E5 s'.opn.length g5) (.slice E6 s'.done.length g6)
        refine gen_wp (fun W2 => BoxSt w s' W2 ∧ Below w.heap.size w W2 ∧ w.heap.size < W2.heap.size) ⟨BoxSt.put HW.out.hg HW.out.new (by omega), Below.grown HW.out.below q (by omega) (by intro k hk; injection hk with hk; omega), Nat.lt_of_lt_of_le hzW q.size⟩ ?_
        clear q t0 t1 t2 t3 t4 t5 t6 t7 n0 n1 n2 n3 n4 n5 n6 n7 zz hzW HW hz HF HNX hgood hB
        intro W2 ⟨hbox, hB, hz⟩
        obtain ⟨F1, l1, F2, l2, F3, l3, F4, l4, F5, l5, F6, l6, hg, hrow⟩ := hbox
        have s0 := cell_of_row W2 _ 0 _ _ _ hg
        have s1 := cell_of_row W2 _ 1 _ _ _ hg
        have s2 := cell_of_row W2 _ 2 _ _ _ hg
        have s3 := cell_of_row W2 _ 3 _ _ _ hg
        have s4 := cell_of_row W2 _ 4 _ _ _ hg
        have s5 := cell_of_row W2 _ 5 _ _ _ hg
        have s6 := cell_of_row W2 _ 6 _ _ _ hg
        have s7 := cell_of_row W2 _ 7 _ _ _ hg
        have hrd := hrow.reads (HFIT.out.bd (by omega))
        have HD := hd hrd.done; have HO := hd hrd.opn; have HE := hd hrd.plan.before; have HROW := hd hrow; have HG := hd hg
        have HRD := hd hrd
        clear hrd hrow hg
        have HB := hd hB
        clear hB
        have hdl := HFIT.out.done; have hol := HFIT.out.opn
        go_wp2
        go_loop [9, 11, 46] (fun a _ i => ∃ j : Nat, j ≤ s'.done.length ∧ i = .int .i64 j ∧ a = .int .u64 (nb (setOf (s'.done.take j)) : Int)) (fun _ _ i => s'.done.length - (intOf i).toNat)
        case atStart => exact ⟨0, Nat.zero_le _, rfl, by rw [List.take_zero, setOf_nil, nb_zero]; rfl⟩
        case round =>
          obtain ⟨j, hj, rfl, rfl⟩ := hrel
          by_cases hlj : j < s'.done.length
          · obtain ⟨b8, o8, rfl, hc⟩ := HD.out.cells (ints_ne _ _ hlj)
            have c0 := hc j _ (ints_get _ _ hlj)
            have hb8 := lt_of_cells c0
            have hx := HGOOD.out.drange s'.done[j] (List.getElem_mem _)
            have hsm := HGOOD.out.small
            have hnn := nodup_next (fun k hk => by have := HGOOD.out.drange k hk; omega) HGOOD.out.dnodup j hlj
            obtain ⟨x, hxx⟩ := Int.eq_ofNat_of_zero_le hx.1
            rw [hxx] at c0 hx hnn
            rw [Int.toNat_natCast] at hnn
            obtain ⟨hx0, hx1⟩ := hx
            have hst : Hid (setOf (s'.done.take (j + 1)) = setOf (s'.done.take j) ||| one x) := by rw [Hid, setOf_take _ j hlj, hxx, Int.toNat_natCast]
            clear hc hxx
            generalize setOf (s'.done.take j) = sk at hst hnn
            have HN := hd hnn
            clear hnn
            have bor := nb_or
            have bon := nb_one
            go_wp2_with (go_at_call 9; (with_reducible refine (in_c _ _ _ (by omega) (by omega)).mono ?_); rintro e w2 ⟨rfl, rfl⟩; rw [Int.toNat_natCast, HN.out])
            clear bor bon
            go_round
            case rel => exact ⟨j + 1, by omega, by go_num, by rw [hst.out]⟩
            case measure => simp [intOf]; omega
          · have : j = s'.done.length := by omega
            subst this
            rw [List.take_length]
            have hed : ∀ p ∈ s'.plan.before, (0 ≤ p.1 ∧ p.1 < 64) ∧ 0 ≤ p.2 ∧ p.2 < 64 := fun p hp => by have := HGOOD.out.edges p hp; have := HGOOD.out.small; omega
            have HED := hd hed; have HC1 := hd (good_done_closed HGOOD.out)
            clear hed
            go_upto_region 23 with (go_at_call 10; (with_reducible refine (closed_c _ _ _ _ _ (HE.out.below (by repeat (first | (with_reducible refine hd ?_) | (with_reducible exact Below.refl _ _) | (with_reducible assumption) | (with_reducible refine Below.alloc ?_ (by first | (simp; done) | (simp; omega) | omega) _) | (with_reducible refine Below.setCell ?_ (by first | (simp; done) | (simp; omega) | omega) _) | (with_reducible refine Below.drew ?_) | (with_reducible refine Below.drewN ?_ _) | (with_reducible refine Below.step ?_ (by with_reducible assumption))))) HED.out).mono ?_); rintro e w3 ⟨rfl, hb3⟩; rw [HC1.out]; obtain ⟨hc3, hf3⟩ := bcell hb3; have hz3 := bgt hb3; have HB3 := hd hb3; clear hb3)
            refine gen_wp (CloS w W2.heap.size s' F1 l1 F2 l2 F3 l3 F4 l4 F5 l5 F6 l6) (CloS.mk' HG.out HROW.out HB.out hz HB3.out) ?_
            clear hc3 hf3 hz3 HB3 HC1 s0 s1 s2 s3 s4 s5 s6 s7 HD HO HE HROW HG HRD
            clear w3
            generalize hgb : W2.heap.size = gb
            clear hgb
            clear HB hz
            intro W hW
            have HW := hd hW
            clear hW
            go_upto_region 24 with fail
            have hW := HW.out
            have s5 := fun j => cell_of_row W _ j _ _ _ hW.hg
            have g5 := fun j => cell_of_row W _ j _ _ _ hW.hgr
            have s6 := s5 6
            have s0 := s5 0
            have hlW := HW.out.bd
            have hlg := HW.out.lt
            clear hW
            clear s5 g5
            go_wp2
            obtain ⟨wo, rfl⟩ : ∃ wo : World, wo = wr := ⟨_, rfl⟩
            go_loopw [12, 14, 76] (fun a _ i W => ∃ j : Nat, j ≤ s'.opn.length ∧ i = .int .i64 j ∧ a = .int .u64 (nb (setOf (s'.done ++ s'.opn.take j)) : Int) ∧ Hid (CloS w gb s' F1 l1 F2 l2 F3 l3 F4 l4 F5 l5 F6 l6 W)) (fun _ _ i _ => s'.opn.length - (intOf i).toNat)
            case atStart => exact ⟨0, Nat.zero_le _, rfl, by rw [List.take_zero, List.append_nil], HW⟩
            case round =>
              clear s6 s0 hlW HW
              obtain ⟨j, hj, rfl, rfl, HW⟩ := hrel
              have hW := HW.out
              have hlW := HW.out.bd
              have s5 := fun j => cell_of_row wr _ j _ _ _ hW.hg
              have g5 := fun j => cell_of_row wr _ j _ _ _ hW.hgr
              have s6 := s5 6
              have s0 := s5 0
              have g0 := g5 0
              have g1 := g5 1
              have hrd := hW.row.reads (HFIT.out.bd (by omega))
              have HO := hd hrd.opn; have HE := hd hrd.plan.before; have HRD := hd hrd
              clear s5 g5 hrd hW
              by_cases hlj : j < s'.opn.length
              · obtain ⟨b8, o8, rfl, hc⟩ := HO.out.cells (ints_ne _ _ hlj)
                have c0 := hc j _ (ints_get _ _ hlj)
                have hb8 := lt_of_cells c0
                have hx := HGOOD.out.orange s'.opn[j] (List.getElem_mem _)
                have hsm := HGOOD.out.small
                have hnn := nodup_next2 HGOOD.out j hlj
                have hcl := good_open_closed HGOOD.out s'.opn[j] (List.getElem_mem _)
                obtain ⟨x, hxx⟩ := Int.eq_ofNat_of_zero_le hx.1
                rw [setOf_snoc] at hcl
                rw [hxx] at c0 hx hnn hcl
                rw [Int.toNat_natCast] at hnn hcl
                obtain ⟨hx0, hx1⟩ := hx
                have hst : Hid (setOf (s'.done ++ s'.opn.take (j + 1)) = setOf (s'.done ++ s'.opn.take j) ||| one x) := by rw [Hid, setOf_next2 _ _ j hlj, hxx, Int.toNat_natCast]
                clear hc hxx
                generalize setOf (s'.done ++ s'.opn.take j) = sk at hst hnn
                have HIN : Hid (∀ w, Calls Tryd.prog 9 #[.int .u64 (nb sk), .int .i64 (x : Int)] w fun e w' => e = .returned (.bool false) ∧ w' = w) := fun w => (in_c sk x w (by omega) (by omega)).mono fun e w' ⟨h1, h2⟩ => ⟨by rw [h1, Int.toNat_natCast, hnn], h2⟩
                have HCL := hd hcl
                clear hnn hcl
                have bor := nb_or
                have bon := nb_one
                go_upto_region 27 with fail
                refine wp_region_still_tail 19 (by kernel_rfl) (by kernel_rfl) ?_
                generalize hq : ({ heap := wr.heap, tape := wr.tape, drawn := wr.drawn + 1, os := wr.os, output := wr.output } : World) = W
                have HW2 : Hid (CloS w gb s' F1 l1 F2 l2 F3 l3 F4 l4 (some ⟨b8, o8, none⟩) l5 F6 l6 W) := by subst hq; exact HW.out.keep (Below.drew (Below.refl _ _))
                clear hq
                have hW := HW2.out
                have hlW := hW.bd
                have g5 := fun j => cell_of_row W _ j _ _ _ hW.hgr
                have g0 := g5 0
                have g1 := g5 1
                have HE := hd (hW.row.reads (HFIT.out.bd (by omega))).plan.before
                clear g5 hW HRD HO HW
                have hx2 : x < s'.plan.steps.length := by omega
                simp only [List.take_succ_cons, List.take_zero, List.drop_succ_cons, List.drop_zero]
                repeat (first | still_step | (still_call (HIN.out _)))
                refine wpStill_nil ?_
                go_wp2_with (go_at_call 10; (with_reducible refine (closed_c _ _ _ _ _ (HE.out.below (by repeat (first | (with_reducible refine hd ?_) | (with_reducible exact Below.refl _ _) | (with_reducible assumption) | (with_reducible refine Below.alloc ?_ (by first | (simp; done) | (simp; omega) | omega) _) | (with_reducible refine Below.setCell ?_ (by first | (simp; done) | (simp; omega) | omega) _) | (with_reducible refine Below.drew ?_) | (with_reducible refine Below.drewN ?_ _) | (with_reducible refine Below.step ?_ (by with_reducible assumption))))) HED.out).mono ?_); rintro e w3 ⟨rfl, hb3⟩; rw [HCL.out]; obtain ⟨hc3, hf3⟩ := bcell hb3; have hz3 := bge hb3; have HB3 := hd hb3; clear hb3)
                clear bor bon
                go_roundw
                case rel => exact ⟨j + 1, by omega, by go_num, by rw [hst.out], HW2.out.keep HB3.out⟩
                case measure => simp [intOf]; omega
              · have : j = s'.opn.length := by omega
                subst this
                rw [List.take_length]
                have HC2 := hd (good_all_closed HGOOD.out)
                have hre := good_reached HGOOD.out
                have hrr : ∀ k ∈ s'.opn ++ s'.done, 0 ≤ k ∧ k < 64 := by
                  intro k hk
                  have := HGOOD.out.small
                  rcases List.mem_append.1 hk with hk | hk
                  · have := HGOOD.out.orange k hk; omega
                  · have := HGOOD.out.drange k hk; omega
                generalize setOf (s'.done ++ s'.opn) = al at hre HC2
                have HRE := hd hre; have HRR := hd hrr
                clear hre hrr
                have s1 := cell_of_row wr _ 1 _ _ _ HW.out.hg
                have s2 := cell_of_row wr _ 2 _ _ _ HW.out.hg
                have s3 := cell_of_row wr _ 3 _ _ _ HW.out.hg
                have s4 := cell_of_row wr _ 4 _ _ _ HW.out.hg
                have s5 := cell_of_row wr _ 5 _ _ _ HW.out.hg
                have s7 := cell_of_row wr _ 7 _ _ _ HW.out.hg
                go_wp2_with (first
                  | (go_at_call 10; (with_reducible refine (closed_c _ _ _ _ _ (HE.out.below (by repeat (first | (with_reducible refine hd ?_) | (with_reducible exact Below.refl _ _) | (with_reducible assumption) | (with_reducible refine Below.alloc ?_ (by first | (simp; done) | (simp; omega) | omega) _) | (with_reducible refine Below.setCell ?_ (by first | (simp; done) | (simp; omega) | omega) _) | (with_reducible refine Below.drew ?_) | (with_reducible refine Below.drewN ?_ _) | (with_reducible refine Below.step ?_ (by with_reducible assumption))))) HED.out).mono ?_); rintro e w3 ⟨rfl, hb3⟩; rw [HC2.out]; obtain ⟨hc3, hf3⟩ := bcell hb3; have hz3 := bge hb3; have HB3 := hd hb3; clear hb3)
                  | (go_at_call 11; (with_reducible refine (reached_c _ _ _ _ _ _ _ _ _ _ (HRD.out.below HB3.out) (by omega) HRR.out).mono ?_); rintro e w4 ⟨rfl, hb4⟩; rw [HRE.out]; obtain ⟨hc4, hf4⟩ := bcell hb4; have hz4 := bge hb4; have HB4 := hd hb4; clear hb4))
                go_roundw
                case rel =>
                  have hW := (HW.out.keep HB3.out).keep HB4.out
                  exact ⟨k + 1, s', by omega, by go_num, HGOOD.out, HFIT.out, ⟨_, _, _, _, _, _, _, _, _, _, _, _, hW.hg, hW.row⟩, hW.below, hW.bd.1⟩
                case measure => simp [intOf]; omega
      · have hb1 : (er == 0) = false := by simpa using he
        have hb2 : (er != 0) = true := by simpa using he
        clear he
        go_wp2
        go_roundw
        case rel => exact ⟨k + 1, s, by omega, by go_num, hgood.out, HF.out.mono (by omega), ⟨A1, d1, A2, d2, A3, d3, A4, d4, A5, d5, A6, d6, HW.out.hg, HW.out.old⟩, HW.out.below, hzW⟩
        case measure => simp [intOf]; omega
    · have : k = rs.length := by omega
      subst this
      go_wp2
      have hx0 := hB.out
      go_ret
      exact ⟨rfl, Below.step HBW.out hx0⟩
end Go.Proofs.YtaamjpeehejafaaDoor
