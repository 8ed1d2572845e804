/- The walk of SagaMirrors. -/
import Derived.Test.YtaamjpeehejafaaDoorMir2
import Derived.Test.YtaamjpeehejafaaDoorClo1
import Derived.Deep.Cut
import Derived.Deep.CutBlock
import Derived.Deep.RegionHeld3
set_option linter.unusedSimpArgs false
set_option linter.unusedVariables false
namespace Go.Proofs.YtaamjpeehejafaaDoor
open Go Go.RowKit

theorem RPlan.none (w : World) : RPlan w (.slice none 0 0) (.slice none 0 0) (.slice none 0 0) (.slice none 0 0) Plan.none := ⟨Sl.nil w, Sl.nil w, Sl.nil w, Sl.nil w⟩
theorem none_bd : Plan.none.bd := ⟨by decide, by decide, by decide, by decide⟩
theorem take_at {s s' : St} {k x : Int} (ht : s.take ⟨k, x, Plan.none⟩ = (s', 0)) (hb : s.bd) (hb' : s'.bd) (hnum : -1 ≤ s.number ∧ s.number ≤ 1099511627776) (w' : World) (v1 v2 v3 v4 v5 v6 : Value) (hs : RSt w' v1 v2 v3 v4 v5 v6 s) (hT : Tab w') :
    Calls Tryd.prog 8 #[.agg #[.int .i64 s.number, .int .i64 s.phase, v1, v2, v3, v4, v5, v6], .agg #[.int .i64 k, .int .i64 x, .slice none 0 0, .slice none 0 0, .slice none 0 0, .slice none 0 0]] w' (TakePost w' s' 0) := by
  have h2 : (s.take ⟨k, x, Plan.none⟩).2 = 0 := by rw [ht]
  have h3 := St.take_ok h2
  rw [ht] at h3
  injection h3 with h3 _
  have := take_c v1 v2 v3 v4 v5 v6 _ _ _ _ s ⟨k, x, Plan.none⟩ w' hs (RPlan.none w') hT none_bd hb (by rw [← h3]; exact hb') hnum
  rw [ht] at this
  exact this
theorem mir_bd {p : Plan} {ph : Int} {o D : List Int} (hp : p.bd) (h1 : o.length ≤ 100) (h2 : D.length ≤ 100) : (mir p ph o D).bd := ⟨hp, by simp only [mir]; omega, by simp only [mir]; omega⟩
theorem u64s_snoc (l : List (BitVec 64)) (b : BitVec 64) : u64s (l ++ [b]) = u64s l ++ [.int .u64 (nb b : Int)] := by simp [u64s]

set_option maxRecDepth 100000 in
set_option maxHeartbeats 4000000 in
theorem mirrors_yes (v1 v2 v3 v4 vp : Value) (p : Plan) (picks : List Int) (w : World) (hr : RPlan w v1 v2 v3 v4 p) (hpk : Sl w vp picks.length (ints picks)) (hT : Tab w) (hm : madeOk p = true) (h40 : (picks.length : Int) ≤ 40) (ht : (St.zero.take ⟨1, 0, p⟩).2 = 0) :
    Calls Tryd.prog 4 #[.agg #[v1, v2, v3, v4], vp] w fun e w' => e = .returned (.bool true) ∧ Below w.heap.size w w' := by
  obtain ⟨P1, p1, rfl⟩ := hr.fr.len
  obtain ⟨P2, p2, rfl⟩ := hr.to.len
  obtain ⟨P3, p3, rfl⟩ := hr.steps.len
  obtain ⟨P4, p4, rfl⟩ := hr.before.len
  obtain ⟨PP, pp, rfl⟩ := hpk.len
  have hpbd : p.bd := madeOk_bd hm
  have hz1 : (⟨0, 1, p, [], []⟩ : St).bd ∨ True := .inr trivial
  have hg0 := mir_begin_good ht
  have hl36 := mir_begin_len ht
  have HTK : Hid (∀ w', RPlan w' (.slice P1 p.fr.length p1) (.slice P2 p.to.length p2) (.slice P3 p.steps.length p3) (.slice P4 p.before.length p4) p → Tab w' → Calls Tryd.prog 8 #[.agg #[.int .i64 0, .int .i64 0, .slice none 0 0, .slice none 0 0, .slice none 0 0, .slice none 0 0, .slice none 0 0, .slice none 0 0], .agg #[.int .i64 1, .int .i64 0, .slice P1 p.fr.length p1, .slice P2 p.to.length p2, .slice P3 p.steps.length p3, .slice P4 p.before.length p4]] w' (TakePost w' (mir p 1 [] []) 0)) := fun w' h1 h2 => by
    have := take_c _ _ _ _ _ _ _ _ _ _ St.zero ⟨1, 0, p⟩ w' (RSt.zero w') h1 h2 hpbd (St.fits.zero.bd (by decide)) ((St.fits.zero.step ⟨1, 0, p⟩ hpbd).bd (by decide)) (by decide)
    rw [mir_begin ht] at this
    exact this
  have HR := hd hr; have HPK := hd hpk; have HT := hd hT; have HM := hd hm; have HPB := hd hpbd; have HG0 := hd hg0
  clear hr hpk hT hm ht hz1 hpbd hg0
  go_enter Tryd.func4, Tryd.ntmps4
  go_upto_region 9 with (first
    | (go_at_call 6; (with_reducible refine (anchor_c _ (HT.out.below (B := w.heap.size) (by repeat (first | (with_reducible refine hd ?_) | (with_reducible exact Below.refl _ _) | (with_reducible assumption) | (with_reducible refine Below.alloc ?_ (by first | (simp; done) | (simp; omega) | omega) _) | (with_reducible refine Below.setCell ?_ (by first | (simp; done) | (simp; omega) | omega) _) | (with_reducible refine Below.drew ?_) | (with_reducible refine Below.drewN ?_ _) | (with_reducible refine Below.step ?_ (by with_reducible assumption)))) HT.out.pos)).mono ?_); rintro e wa ⟨rfl, hb1⟩; obtain ⟨hc1, hf1⟩ := bcell hb1; have hz1 := bgt hb1; have HB1 := hd hb1; clear hb1)
    | (go_at_call 12; (with_reducible refine (made_c _ _ _ _ p _ (HR.out.below (Below.trans (Below.box _ _) (HB1.out.mono (by simp))))).mono ?_); intro e wm hpost; obtain ⟨B5, e5, rfl, ho2, hb2⟩ := hpost.yes HM.out; obtain ⟨hc2, hf2⟩ := bcell hb2; have hz2 := bge hb2; have hz3 : w.heap.size < wm.heap.size := Nat.lt_of_lt_of_le hz1 hz2; have HB2 := hd hb2; clear hpost ho2 hb2; have HBM := hd (show Below w.heap.size w wm from (Below.trans (Below.box _ _) (HB1.out.mono (by simp))).trans (HB2.out.mono (by omega))))
    | (go_at_call 8; (with_reducible refine (HTK.out _ (HR.out.below (Below.alloc HBM.out (by omega) _)) (HT.out.below (B := w.heap.size) (Below.alloc HBM.out (by omega) _) HT.out.pos)).mono ?_); rintro e w2 ⟨u1, u2, u3, u4, u5, u6, rfl, hrow2, hb3⟩; obtain ⟨hc3, hf3⟩ := bcell hb3; have hz4 := bgt hb3; have HB3 := hd hb3; obtain ⟨E1, g1, E2, g2, E3, g3, E4, g4, E5, g5, E6, g6, rfl, rfl, rfl, rfl, rfl, rfl⟩ := hrow2.slices; have HROW2 := hd hrow2; clear hb3 hrow2))
  refine gen_wp (MirB w P1 p1 P2 p2 P3 p3 P4 p4 w2.heap.size (mir p 1 [] []) (.slice none 0 0) []) ?_ ?_
  · refine ⟨E1, g1, E2, g2, E3, g3, E4, g4, E5, g5, E6, g6, ?_, heap_alloc_new _ _, (HROW2.out.below (Below.box _ _)).mono (by simp; omega), own_nil _ _ _ _, Below.alloc ((Below.alloc HBM.out (by omega) _).trans (HB3.out.mono (by simp; omega))) (by omega) _, by omega⟩
    have q0 : (w.alloc (.cells #[.slice P1 p.fr.length p1, .slice P2 p.to.length p2, .slice P3 p.steps.length p3, .slice P4 p.before.length p4] 29 (0, 0))).heap[w.heap.size]? = some (.cells #[.slice P1 p.fr.length p1, .slice P2 p.to.length p2, .slice P3 p.steps.length p3, .slice P4 p.before.length p4] 29 (0, 0)) := heap_alloc_new _ _
    exact (Below.heap_alloc _ _ _ (by omega)).trans ((HB3.out.block _ (by simp; omega)).trans ((Below.heap_alloc _ _ _ (by omega)).trans ((HB2.out.block _ (by omega)).trans ((HB1.out.block _ (by simp)).trans q0))))
  clear hc1 hf1 hz1 HB1 hc2 hf2 hz2 hz3 HB2 HBM hc3 hf3 hz4 HB3 HROW2 HTK
  generalize hgb : w2.heap.size = gb
  clear hgb
  intro W hW
  have HW := hd hW
  clear hW
  go_upto_block 0 with fail
  have hloc : Hid (0 < w.heap.size) := HT.out.pos
  go_cut [9] from 50 to 108 (fun v9 W => ∃ D : List Int, D.length ≤ 40 ∧ Hid (mir p 1 [] D).good ∧ Hid (MirB w P1 p1 P2 p2 P3 p3 P4 p4 gb (mir p 1 [] D) v9 D W))
  case first =>
    go_wp2_with fail
    go_loopw [9, 50] (fun v9 i W => ∃ (k : Nat) (D : List Int), k ≤ picks.length ∧ i = .int .i64 k ∧ D.length ≤ k ∧ Hid (mir p 1 [] D).good ∧ Hid (MirB w P1 p1 P2 p2 P3 p3 P4 p4 gb (mir p 1 [] D) v9 D W)) (fun _ i _ => picks.length - (intOf i).toNat)
    case atStart => exact ⟨0, [], Nat.zero_le _, rfl, Nat.le_refl _, HG0.out, HW.out⟩
    case round =>
      clear HW
      obtain ⟨k, D, hk, rfl, hD, hgood, hBB⟩ := hrel
      by_cases hlt : k < picks.length
      · obtain ⟨A1, d1, A2, d2, A3, d3, A4, d4, A5, d5, A6, d6, hW⟩ := hBB.out
        clear hBB
        obtain ⟨wo, rfl⟩ : ∃ wo : World, wo = wr := ⟨_, rfl⟩
        obtain ⟨bp, op, rfl, hc⟩ := (HPK.out.below hW.below).cells (ints_ne _ _ hlt)
        have c0 := hc k _ (ints_get _ _ hlt)
        have hbp := lt_of_cells c0
        have q0 := fun j => cell_of_row wo _ j _ _ _ hW.hp
        have q2 := q0 2
        have HW := hd hW
        have hsz := hW.bd
        obtain ⟨hsz1, hsz2⟩ := hsz
        have hlt0 := hW.lt
        clear hc q0 hW
        go_upto_block 2 with fail
        go_wp2_with fail
        go_loopw [12, 57] (fun v12 i wr => ∃ j : Nat, j ≤ p.steps.length ∧ i = .int .i64 j ∧ Hid (wr.ownsRow wo.heap.size 3 1 v12 (mayList (mir p 1 [] D) j).length (ints (mayList (mir p 1 [] D) j))) ∧ Hid (Below wo.heap.size wo wr)) (fun _ i _ => p.steps.length - (intOf i).toNat)
        case atStart => exact ⟨0, Nat.zero_le _, rfl, own_nil _ _ _ _, Below.refl _ _⟩
        case round =>
          obtain ⟨j, hj, rfl, hown, hBo⟩ := hrel
          have hWr := HW.out.keep hBo.out
          have hbz := hBo.out.size
          have hszr := hWr.bd
          obtain ⟨hszr1, hszr2⟩ := hszr
          have s0 := cell_of_row wr _ 0 _ _ _ hWr.hg
          have s1 := cell_of_row wr _ 1 _ _ _ hWr.hg
          have s2 := cell_of_row wr _ 2 _ _ _ hWr.hg
          have s3 := cell_of_row wr _ 3 _ _ _ hWr.hg
          have s4 := cell_of_row wr _ 4 _ _ _ hWr.hg
          have s5 := cell_of_row wr _ 5 _ _ _ hWr.hg
          have s6 := cell_of_row wr _ 6 _ _ _ hWr.hg
          have s7 := cell_of_row wr _ 7 _ _ _ hWr.hg
          have hbs : (mir p 1 [] D).bd := ⟨HPB.out, by simp [mir], by simp only [mir]; omega⟩
          have HRS := hd (hWr.row.reads hbs)
          have HWR := hd hWr
          clear hWr
          by_cases hlj : j < p.steps.length
          · cases hmy : (mir p 1 [] D).may (j : Int) with
            | true =>
              have HL := hd (mayList_yes hmy)
              have hll := mayList_len (mir p 1 [] D) j
              have HMY := hd hmy
              clear hmy
              generalize mayList (mir p 1 [] D) j = ml at hown HL hll
              go_wp2_with (first
                | (go_at_call 13; (with_reducible refine (may_c _ _ _ _ _ _ _ _ _ (mir p 1 [] D) _ HRS.out rfl).mono ?_); rintro e w3 ⟨rfl, hb3⟩; rw [HMY.out]; obtain ⟨hc3, hf3⟩ := bcell hb3; have hz3 := bge hb3; have HB3 := hd hb3; clear hb3)
                | (at_builtin; go_must (refine wpList_append_sl rfl _ _ _ rfl wo.heap.size 3 (.int .i64 0) 1 8 Tryd.underlying25 (by kernel_rfl) rfl (by decide) _ rfl _ _ (own_below (own_below hown.out HB3.out) (Below.box _ _)) _ rfl 1 [.int .i64 j] (Sl.one _ _ _ _) rfl (by intro u hu; simp at hu; subst hu; rfl) (by unfold maxLen; omega) (by omega) (by simp; omega) ?_)))
              intro v' w5 hown5 hgr5
              have hg3 := below_grown _ hgr5
              have HG3 := hd hg3; have HO5 := hd hown5
              clear hown5 hgr5 hg3
              go_wp2
              go_roundw
              case rel => exact ⟨j + 1, by omega, by go_num, by rw [HL.out, List.length_append]; unfold ints; rw [List.map_append]; exact HO5.out, Below.grown (hBo.out.trans (HB3.out.mono hbz)) HG3.out (by omega) (fun g hg => sets_ge hown.out g hg)⟩
              case measure => simp [intOf]; omega
            | false =>
              have HL := hd (mayList_no hmy)
              have HMY := hd hmy
              clear hmy
              go_wp2_with (go_at_call 13; (with_reducible refine (may_c _ _ _ _ _ _ _ _ _ (mir p 1 [] D) _ HRS.out rfl).mono ?_); rintro e w3 ⟨rfl, hb3⟩; rw [HMY.out]; obtain ⟨hc3, hf3⟩ := bcell hb3; have hz3 := bge hb3; have HB3 := hd hb3; clear hb3)
              go_roundw
              case rel => exact ⟨j + 1, by omega, by go_num, by rw [HL.out]; exact own_below hown.out HB3.out, hBo.out.trans (HB3.out.mono hBo.out.size)⟩
              case measure => simp [intOf]; omega
          · have : j = p.steps.length := by omega
            subst this
            have hll := mayList_len (mir p 1 [] D) p.steps.length
            have HMM := hd (fun x (h : x ∈ mayList (mir p 1 [] D) p.steps.length) => mayList_may h)
            generalize mayList (mir p 1 [] D) p.steps.length = ml at hown hll HMM
            obtain ⟨LA, lc, rfl⟩ := own_slice hown.out
            by_cases hl0 : ml.length = 0
            · have hl1 : ((ml.length : Int) == 0) = true := by simp [hl0]
              clear hl0
              go_wp2
              go_meet
              exact ⟨D, by omega, hgood, ⟨_, _, _, _, _, _, _, _, _, _, _, _, HWR.out⟩⟩
            · have hl1 : ((ml.length : Int) == 0) = false := beq_eq_false_iff_ne.2 (by omega)
              have hml := Sl.of_own hown.out (by omega)
              generalize hpk : picks[k] = pk at c0
              clear hpk
              have hn1 := Int.tmod_lt_of_pos pk (show (0 : Int) < ml.length by omega)
              have hn2 : -(ml.length : Int) < pk.tmod ml.length := by
                have := Int.lt_tmod_of_pos pk (show (0 : Int) < ml.length by omega)
                omega
              go_upto_region 22 with fail
              obtain ⟨ni, hni⟩ : ∃ ni, pk.tmod ml.length = ni := ⟨_, rfl⟩
              rw [hni] at hn1 hn2
              simp only [hni]
              clear hni
              have hix : (if ni < -ni then -ni else ni) = (ni.natAbs : Int) := by split <;> omega
              have hia : ni.natAbs < ml.length := by omega
              obtain ⟨bl, ol, rfl, hcl⟩ := hml.cells (ints_ne _ _ hia)
              have cx := hcl _ _ (ints_get _ _ hia)
              have hxm := HMM.out _ (List.getElem_mem hia)
              generalize ml[ni.natAbs] = x at cx hxm
              have HXM := hd hxm
              clear hcl hxm hml
              go_upto_region 23 with fail
              have hmo := mir_open HXM.out
              have hT2 := take_at hmo (mir_bd HPB.out (by simp) (by omega)) (mir_bd HPB.out (by simp) (by omega)) (by simp [mir])
              have hT3 := take_at (mir_close (p := p) (D := D) (x := x)) (mir_bd HPB.out (by simp) (by omega)) (mir_bd HPB.out (by simp) (by simp; omega)) (by simp [mir])
              have hgn := mir_next_good hgood.out HXM.out
              have hre : setOf ((mir p 1 [] D).opn ++ (mir p 1 [] D).done) = setOf D := by simp [mir]
              have hrr : ∀ k ∈ (mir p 1 [] D).opn ++ (mir p 1 [] D).done, 0 ≤ k ∧ k < 64 := fun k hk => by
                have hk2 : k ∈ D := by simpa [mir] using hk
                have := hgood.out.drange k hk2; have := hgood.out.small; omega
              have hln : (mir p 1 [] D).opn.length + (mir p 1 [] D).done.length ≤ 1000000 := by simp only [mir]; simp; omega
              have hsl := setsOf_len D
              have hsn := setsOf_snoc D x
              have HT2 := hd hT2; have HT3 := hd hT3; have HGN := hd hgn; have HRE := hd hre; have HRR := hd hrr; have HLN := hd hln; have HSN := hd hsn; have HSL := hd hsl
              have hpl : (mir p 1 [] (D ++ [x])).plan = (mir p 1 [] D).plan := rfl
              have HPL := hd hpl
              clear hmo hT2 hT3 hgn hre hrr hln hsl hsn hpl HXM HMM hown hll hn1 hn2 hix hia cx hl0 hl1 hBo hbz s0 s1 s2 s3 s4 s5 s6 s7 HRS
              clear c0 hbp q2 hsz1 hsz2 hszr1 hszr2 HW
              have hbs : (mir p 1 [] D).bd := mir_bd HPB.out (by simp) (by omega)
              have HBS := hd hbs
              have HBS1 := hd (mir_bd (ph := 1) (o := [x]) (D := D) HPB.out (by simp) (by omega))
              clear hbs
              generalize hS1 : mir p 1 [x] D = S1 at *
              generalize hS2 : mir p 1 [] (D ++ [x]) = S2 at *
              generalize mir p 1 [] D = S0 at *
              refine gen_wp (MirW w P1 p1 P2 p2 P3 p3 P4 p4 gb S0 u9 D A1 d1 A2 d2 A3 d3 A4 d4 A5 d5 A6 d6) HWR.out ?_
              clear HWR
              clear wr
              intro W hW
              have s0 := cell_of_row W _ 0 _ _ _ hW.hg
              have s1 := cell_of_row W _ 1 _ _ _ hW.hg
              have s2 := cell_of_row W _ 2 _ _ _ hW.hg
              have s3 := cell_of_row W _ 3 _ _ _ hW.hg
              have s4 := cell_of_row W _ 4 _ _ _ hW.hg
              have s5 := cell_of_row W _ 5 _ _ _ hW.hg
              have s6 := cell_of_row W _ 6 _ _ _ hW.hg
              have s7 := cell_of_row W _ 7 _ _ _ hW.hg
              have hsz := hW.bd
              obtain ⟨hsz1, hsz2⟩ := hsz
              have HRS := hd (hW.row.reads HBS.out)
              have HW := hd hW
              have hsl : (setsOf D).length ≤ 100 := by rw [HSL.out]; omega
              clear hW
              go_upto_region 24 with (first
                | (go_at_call 11; (with_reducible refine (reached_c _ _ _ _ _ _ _ _ _ _ HRS.out HLN.out HRR.out).mono ?_); rintro e w3 ⟨rfl, hb3⟩; rw [HRE.out]; have hz3 := bge hb3; have HB3 := hd hb3; clear hb3)
                | (at_builtin; go_must (refine wpList_append_sl rfl _ _ _ rfl w.heap.size 39 (.int .u64 0) 1 8 Tryd.underlying49 (by kernel_rfl) rfl (by decide) _ rfl _ _ (own_below (own_below HW.out.sets HB3.out) (Below.box _ _)) _ rfl 1 [.int .u64 (nb (setOf D))] (Sl.one _ _ _ _) rfl (by intro u hu; simp at hu; subst hu; rfl) (by unfold maxLen; omega) (by omega) (by simp; omega) ?_)))
              intro v5 w5 hown5 hgr5
              go_upto_region 24 with fail
              refine gen_wp (MirW w P1 p1 P2 p2 P3 p3 P4 p4 gb S0 v5 (D ++ [x]) A1 d1 A2 d2 A3 d3 A4 d4 A5 d5 A6 d6) ((HW.out.keep HB3.out).app (below_grown _ hgr5) (by rw [HSN.out, List.length_append, u64s_snoc]; exact hown5)) ?_
              clear hown5 hgr5 HW hsl HRS s0 s1 s2 s3 s4 s5 s6 s7 hsz1 hsz2 hz3 HB3
              clear w5
              generalize w3.heap.size = b85
              clear w3
              clear W
              intro W hW
              have s0 := cell_of_row W _ 0 _ _ _ hW.hg
              have s1 := cell_of_row W _ 1 _ _ _ hW.hg
              have s2 := cell_of_row W _ 2 _ _ _ hW.hg
              have s3 := cell_of_row W _ 3 _ _ _ hW.hg
              have s4 := cell_of_row W _ 4 _ _ _ hW.hg
              have s5 := cell_of_row W _ 5 _ _ _ hW.hg
              have s6 := cell_of_row W _ 6 _ _ _ hW.hg
              have s7 := cell_of_row W _ 7 _ _ _ hW.hg
              have hsz := hW.bd
              obtain ⟨hsz1, hsz2⟩ := hsz
              have HRS := hd (hW.row.reads HBS.out)
              have HW := hd hW
              clear hW
              go_upto_region 26 with (first
                | (go_at_call 8; (with_reducible refine (HT2.out _ _ _ _ _ _ _ HRS.out (HT.out.below (B := w.heap.size) HW.out.below HT.out.pos)).mono ?_); rintro e w3 ⟨u1, u2, u3, u4, u5, u6, rfl, hrow3, hb3⟩; obtain ⟨hc3, hf3⟩ := bcell hb3; have hz3 := bge hb3; have HB3 := hd hb3; obtain ⟨E1, g1, E2, g2, E3, g3, E4, g4, E5, g5, E6, g6, rfl, rfl, rfl, rfl, rfl, rfl⟩ := hrow3.slices; have HROW3 := hd hrow3; clear hb3 hrow3)
                | (go_at_call 8; go_must ((with_reducible refine (HT3.out _ _ _ _ _ _ _ ((HROW3.out.below (Below.box _ _)).reads HBS1.out) (HT.out.below (B := w.heap.size) (Below.alloc (HW.out.below.trans (HB3.out.mono (by omega))) (by omega) _) HT.out.pos)).mono ?_); rintro e w4 ⟨u1, u2, u3, u4, u5, u6, rfl, hrow4, hb4⟩; obtain ⟨hc4, hf4⟩ := bcell hb4; have hz4 := bgt hb4; have HB4 := hd hb4; obtain ⟨F1, l1, F2, l2, F3, l3, F4, l4, F5, l5, F6, l6, rfl, rfl, rfl, rfl, rfl, rfl⟩ := hrow4.slices; have HROW4 := hd hrow4; clear hb4 hrow4)))
              have hz34 : w3.heap.size < w4.heap.size := by omega
              refine gen_wp (fun X => MirW w P1 p1 P2 p2 P3 p3 P4 p4 gb S0 v5 (D ++ [x]) A1 d1 A2 d2 A3 d3 A4 d4 A5 d5 A6 d6 X ∧ X.heap[w4.heap.size]? = some (.cells #[.int .i64 S2.number, .int .i64 S2.phase, .slice F1 S2.plan.fr.length l1, .slice F2 S2.plan.to.length l2, .slice F3 S2.plan.steps.length l3, .slice F4 S2.plan.before.length l4, .slice F5 S2.opn.length l5, .slice F6 S2.done.length l6] 31 (0, 0)) ∧ RowSt X w.heap.size (.slice F1 S2.plan.fr.length l1) (.slice F2 S2.plan.to.length l2) (.slice F3 S2.plan.steps.length l3) (.slice F4 S2.plan.before.length l4) (.slice F5 S2.opn.length l5) (.slice F6 S2.done.length l6) S2)
                ⟨(HW.out.keep ((HB3.out.trans ((Below.box _ _).mono hz3)).trans (HB4.out.mono (by simp; omega)))).keep (Below.box _ _), heap_alloc_new _ _, (HROW4.out.below (Below.box _ _)).mono (by simp; omega)⟩ ?_
              clear HW HROW3 HROW4 HRS s0 s1 s2 s3 s4 s5 s6 s7 hsz1 hsz2 hz3 hz4 hz34 HB3 HB4 hc3 hf3 hc4 hf4 HT2 HT3
              generalize w4.heap.size = b18
              generalize w3.heap.size = b16
              clear w4
              clear w3
              clear W
              intro W hWW
              obtain ⟨hW, hg2, hrow2⟩ := hWW
              have n0 := cell_of_row W _ 0 _ _ _ hg2
              have n1 := cell_of_row W _ 1 _ _ _ hg2
              have n2 := cell_of_row W _ 2 _ _ _ hg2
              have n3 := cell_of_row W _ 3 _ _ _ hg2
              have n4 := cell_of_row W _ 4 _ _ _ hg2
              have n5 := cell_of_row W _ 5 _ _ _ hg2
              have n6 := cell_of_row W _ 6 _ _ _ hg2
              have n7 := cell_of_row W _ 7 _ _ _ hg2
              have s0 := cell_of_row W _ 0 _ _ _ hW.hg
              have s1 := cell_of_row W _ 1 _ _ _ hW.hg
              have s2 := cell_of_row W _ 2 _ _ _ hW.hg
              have s3 := cell_of_row W _ 3 _ _ _ hW.hg
              have s4 := cell_of_row W _ 4 _ _ _ hW.hg
              have s5 := cell_of_row W _ 5 _ _ _ hW.hg
              have s6 := cell_of_row W _ 6 _ _ _ hW.hg
              have s7 := cell_of_row W _ 7 _ _ _ hW.hg
              have zz := fun j => frozen_of_row W _ j _ _ hW.hg
              have HW := hd hW; have HROW2 := hd hrow2
              clear hW hg2 hrow2
              go_wp2
              go_roundw
              case rel =>
                subst hS2
                exact ⟨k + 1, D ++ [x], by omega, by go_num, by simp; omega, HGN.out, ⟨_, _, _, _, _, _, _, _, _, _, _, _, HW.out.put HPL.out HROW2.out⟩⟩
              case measure => simp [intOf]; omega
      · have : k = picks.length := by omega
        subst this
        go_wp2
        go_meet
        exact ⟨D, by omega, hgood, hBB⟩
  case rest =>
    obtain ⟨D, hD, hgood, hBB⟩ := hcut
    obtain ⟨A1, d1, A2, d2, A3, d3, A4, d4, A5, d5, A6, d6, hW⟩ := hBB.out
    clear hBB
    have hT5 := take_at (mir_abort (p := p) (D := D)) (mir_bd HPB.out (by simp) (by omega)) (mir_bd HPB.out (by simp) (by omega)) (by simp [mir])
    have hgn : (mir p 2 [] D).good := good_phase hgood.out 2
    have hpl : (mir p 2 [] D).plan = (mir p 1 [] D).plan := rfl
    have HBS := hd (mir_bd (ph := 1) (o := []) (D := D) HPB.out (by simp) (by omega))
    have HT5 := hd hT5; have HGN := hd hgn; have HPL := hd hpl
    clear hT5 hgn hpl hgood
    generalize hS2 : mir p 2 [] D = S2 at *
    generalize mir p 1 [] D = S0 at *
    go_upto_region 30 with fail
    refine gen_wp (MirW w P1 p1 P2 p2 P3 p3 P4 p4 gb S0 _ D A1 d1 A2 d2 A3 d3 A4 d4 A5 d5 A6 d6) hW ?_
    clear hW
    intro W hW
    have s0 := cell_of_row W _ 0 _ _ _ hW.hg
    have s1 := cell_of_row W _ 1 _ _ _ hW.hg
    have s2 := cell_of_row W _ 2 _ _ _ hW.hg
    have s3 := cell_of_row W _ 3 _ _ _ hW.hg
    have s4 := cell_of_row W _ 4 _ _ _ hW.hg
    have s5 := cell_of_row W _ 5 _ _ _ hW.hg
    have s6 := cell_of_row W _ 6 _ _ _ hW.hg
    have s7 := cell_of_row W _ 7 _ _ _ hW.hg
    have zz := fun j => frozen_of_row W _ j _ _ hW.hg
    have hsz := hW.bd
    obtain ⟨hsz1, hsz2⟩ := hsz
    have HRS := hd (hW.row.reads HBS.out)
    have HW := hd hW
    clear hW
    go_upto_region 31 with (go_at_call 8; (with_reducible refine (HT5.out _ _ _ _ _ _ _ HRS.out (HT.out.below (B := w.heap.size) HW.out.below HT.out.pos)).mono ?_); rintro e w3 ⟨u1, u2, u3, u4, u5, u6, rfl, hrow3, hb3⟩; obtain ⟨hc3, hf3⟩ := bcell hb3; have hz3 := bge hb3; have HB3 := hd hb3; obtain ⟨E1, g1, E2, g2, E3, g3, E4, g4, E5, g5, E6, g6, rfl, rfl, rfl, rfl, rfl, rfl⟩ := hrow3.slices; have HROW3 := hd hrow3; clear hb3 hrow3)
    refine gen_wp (MirB w P1 p1 P2 p2 P3 p3 P4 p4 gb S2 u9 D) ⟨_, _, _, _, _, _, _, _, _, _, _, _, (HW.out.keep HB3.out).put HPL.out (HROW3.out.mono (by omega))⟩ ?_
    clear HW HRS HROW3 hc3 hf3 hz3 HB3 s0 s1 s2 s3 s4 s5 s6 s7 zz hsz1 hsz2 HT5 HBS
    clear w3
    clear W
    intro W hBB
    obtain ⟨A1, d1, A2, d2, A3, d3, A4, d4, A5, d5, A6, d6, hW⟩ := hBB
    obtain ⟨SA, sc, hv9⟩ := own_slice hW.sets
    rw [setsOf_len] at hv9
    subst hv9
    have HB := hd (show MirB w P1 p1 P2 p2 P3 p3 P4 p4 gb S2 (.slice SA D.length sc) D W from ⟨_, _, _, _, _, _, _, _, _, _, _, _, hW⟩)
    subst hS2
    clear hW HPL
    go_wp2
    go_loopw [119] (fun i wr => ∃ j : Nat, j ≤ D.length ∧ i = .int .i64 j ∧ Hid (mir p 2 [] (D.take (D.length - j))).good ∧ Hid (MirB w P1 p1 P2 p2 P3 p3 P4 p4 gb (mir p 2 [] (D.take (D.length - j))) (.slice SA D.length sc) D wr)) (fun i _ => D.length - (intOf i).toNat)
    case atStart => exact ⟨0, Nat.zero_le _, rfl, by rw [Nat.sub_zero, List.take_length]; exact HGN, by rw [Nat.sub_zero, List.take_length]; exact HB⟩
    case round =>
      clear HB
      obtain ⟨j, hj, rfl, hgood, hBB⟩ := hrel
      obtain ⟨A1, d1, A2, d2, A3, d3, A4, d4, A5, d5, A6, d6, hW⟩ := hBB.out
      clear hBB
      by_cases hlt : j < D.length
      · obtain ⟨m, hm⟩ : ∃ m, m + 1 + j = D.length := ⟨D.length - 1 - j, by omega⟩
        have hml : m < D.length := by omega
        have e0 : D.length - j = m + 1 := by omega
        have e1 : D.length - (j + 1) = m := by omega
        rw [e0, List.take_succ_eq_append_getElem hml] at hgood hW
        have hsx : (u64s (setsOf D))[m]? = some (.int .u64 (nb (setOf (D.take m)) : Int)) := by
          have h1 : m < (setsOf D).length := by rw [setsOf_len]; exact hml
          unfold u64s
          rw [List.getElem?_map, List.getElem?_eq_getElem h1, setsOf_get D m hml]; rfl
        have HE1 := hd e1
        have hlm : (D.take m).length ≤ 40 := by rw [List.length_take]; omega
        clear e0 e1
        have hss := Sl.of_own hW.sets (by rw [setsOf_len]; omega)
        generalize hDm : D.take m = Dm at *
        generalize hxx : D[m] = x at *
        clear hxx hml
        have HDM := hd hDm
        clear hDm
        obtain ⟨bs, os, rfl, hcs⟩ : ∃ bs os, SA = some ⟨bs, os, none⟩ ∧ ∀ j u, (u64s (setsOf D))[j]? = some u → wr.cell? ⟨bs, os + j, none⟩ = some u := by
          have hq := hss
          rw [setsOf_len] at hq
          exact hq.cells (by intro e; rw [e] at hsx; simp at hsx)
        have cs0 := hcs m _ hsx
        have hbs := lt_of_cells cs0
        have hTOP := mir_top (p := p) (D := Dm) (x := x)
        have hT6 := take_at (mir_undo hgood.out) (mir_bd HPB.out (by simp) (by simp; omega)) (mir_bd HPB.out (by simp) (by omega)) (by simp [mir])
        have hgn := mir_undo_good hgood.out
        have hpl : (mir p 2 [] Dm).plan = (mir p 2 [] (Dm ++ [x])).plan := rfl
        have hre : setOf ((mir p 2 [] Dm).opn ++ (mir p 2 [] Dm).done) = setOf Dm := by simp [mir]
        have hrr : ∀ k ∈ (mir p 2 [] Dm).opn ++ (mir p 2 [] Dm).done, 0 ≤ k ∧ k < 64 := fun k hk => by
          have hk2 : k ∈ Dm := by simpa [mir] using hk
          have := hgn.drange k hk2; have := hgn.small; omega
        have hln : (mir p 2 [] Dm).opn.length + (mir p 2 [] Dm).done.length ≤ 1000000 := by simp only [mir]; simp; omega
        have HBS := hd (mir_bd (ph := 2) (o := []) (D := Dm ++ [x]) HPB.out (by simp) (by simp; omega))
        have HBS1 := hd (mir_bd (ph := 2) (o := []) (D := Dm) HPB.out (by simp) (by omega))
        have HTOP := hd hTOP; have HT6 := hd hT6; have HGN := hd hgn; have HPL := hd hpl; have HRE := hd hre; have HRR := hd hrr; have HLN := hd hln
        have HCS := hd hcs; have HSX := hd hsx
        clear hTOP hT6 hgn hpl hre hrr hln hcs hsx cs0 hss
        generalize hS0 : mir p 2 [] (Dm ++ [x]) = S0 at *
        generalize hS1 : mir p 2 [] Dm = S1 at *
        have HS1 := hd hS1
        clear hS0 hS1
        have s0 := cell_of_row wr _ 0 _ _ _ hW.hg
        have s1 := cell_of_row wr _ 1 _ _ _ hW.hg
        have s2 := cell_of_row wr _ 2 _ _ _ hW.hg
        have s3 := cell_of_row wr _ 3 _ _ _ hW.hg
        have s4 := cell_of_row wr _ 4 _ _ _ hW.hg
        have s5 := cell_of_row wr _ 5 _ _ _ hW.hg
        have s6 := cell_of_row wr _ 6 _ _ _ hW.hg
        have s7 := cell_of_row wr _ 7 _ _ _ hW.hg
        have hsz := hW.bd
        obtain ⟨hsz1, hsz2⟩ := hsz
        have HRS := hd (hW.row.reads HBS.out)
        have HW := hd hW
        clear hW
        go_upto_region 38 with (first
          | (go_at_call 14; (with_reducible refine (top_c _ _ _ _ _ _ _ _ _ HRS.out).mono ?_); rintro e w3 ⟨rfl, hb3⟩; rw [HTOP.out]; obtain ⟨hc3, hf3⟩ := bcell hb3; have hz3 := bge hb3; have HB3 := hd hb3; clear hb3)
          | (go_at_call 8; go_must ((with_reducible refine (HT6.out _ _ _ _ _ _ _ (HRS.out.below HB3.out) (HT.out.below (B := w.heap.size) (HW.out.below.trans (HB3.out.mono (by omega))) HT.out.pos)).mono ?_); rintro e w4 ⟨u1, u2, u3, u4, u5, u6, rfl, hrow4, hb4⟩; have hz4 := bge hb4; have HB4 := hd hb4; obtain ⟨E1, g1, E2, g2, E3, g3, E4, g4, E5, g5, E6, g6, rfl, rfl, rfl, rfl, rfl, rfl⟩ := hrow4.slices; have HROW4 := hd hrow4; clear hb4 hrow4)))
        refine gen_wp (fun X => MirW w P1 p1 P2 p2 P3 p3 P4 p4 gb S0 (.slice (some ⟨bs, os, none⟩) D.length sc) D A1 d1 A2 d2 A3 d3 A4 d4 A5 d5 A6 d6 X ∧ X.heap[w4.heap.size]? = some (.cells #[.int .i64 S1.number, .int .i64 S1.phase, .slice E1 S1.plan.fr.length g1, .slice E2 S1.plan.to.length g2, .slice E3 S1.plan.steps.length g3, .slice E4 S1.plan.before.length g4, .slice E5 S1.opn.length g5, .slice E6 S1.done.length g6] 31 (0, 0)) ∧ RowSt X w.heap.size (.slice E1 S1.plan.fr.length g1) (.slice E2 S1.plan.to.length g2) (.slice E3 S1.plan.steps.length g3) (.slice E4 S1.plan.before.length g4) (.slice E5 S1.opn.length g5) (.slice E6 S1.done.length g6) S1)
          ⟨(HW.out.keep (HB3.out.trans (HB4.out.mono hz3))).keep (Below.box _ _), heap_alloc_new _ _, (HROW4.out.below (Below.box _ _)).mono (by omega)⟩ ?_
        clear HW HROW4 HRS s0 s1 s2 s3 s4 s5 s6 s7 hsz1 hsz2 hz3 hz4 HB3 HB4 hc3 hf3 HT6 HTOP HCS hbs
        generalize w4.heap.size = b23
        clear w4
        clear w3
        intro W hWW
        obtain ⟨hW, hg2, hrow2⟩ := hWW
        have n0 := cell_of_row W _ 0 _ _ _ hg2
        have n1 := cell_of_row W _ 1 _ _ _ hg2
        have n2 := cell_of_row W _ 2 _ _ _ hg2
        have n3 := cell_of_row W _ 3 _ _ _ hg2
        have n4 := cell_of_row W _ 4 _ _ _ hg2
        have n5 := cell_of_row W _ 5 _ _ _ hg2
        have n6 := cell_of_row W _ 6 _ _ _ hg2
        have n7 := cell_of_row W _ 7 _ _ _ hg2
        have cs0 : W.cell? ⟨bs, os + m, none⟩ = some (.int .u64 (nb (setOf Dm))) := by
          have hq := Sl.of_own hW.sets (by rw [setsOf_len]; omega)
          rw [setsOf_len] at hq
          exact hq.ptr m _ HSX.out
        have hbs := lt_of_cells cs0
        have h23 := lt_of_cells n0
        have HRS := hd (hrow2.reads HBS1.out)
        have HW := hd hW; have HROW2 := hd hrow2; have HG2 := hd hg2
        clear hW hrow2 hg2
        have hw1 : IntKind.i64.wrap ((D.length : Int) - 1) = (D.length : Int) - 1 := IntWalk.i64_in _ (by omega)
        have hw2 : IntKind.i64.wrap ((D.length : Int) - 1 - j) = m := by rw [IntWalk.i64_in _ (by omega)]; omega
        have hm0 : (0 : Int) ≤ (m : Int) := by omega
        have hm1 : (m : Int) < (D.length : Int) := by omega
        go_region_held3 (fun X => X.cell? ⟨b23, 0, none⟩ = some (.int .i64 S1.number) ∧ X.cell? ⟨b23, 1, none⟩ = some (.int .i64 S1.phase) ∧ X.cell? ⟨b23, 2, none⟩ = some (.slice E1 S1.plan.fr.length g1) ∧ X.cell? ⟨b23, 3, none⟩ = some (.slice E2 S1.plan.to.length g2) ∧ X.cell? ⟨b23, 4, none⟩ = some (.slice E3 S1.plan.steps.length g3) ∧ X.cell? ⟨b23, 5, none⟩ = some (.slice E4 S1.plan.before.length g4) ∧ X.cell? ⟨b23, 6, none⟩ = some (.slice E5 S1.opn.length g5) ∧ X.cell? ⟨b23, 7, none⟩ = some (.slice E6 S1.done.length g6) ∧ X.cell? ⟨bs, os + m, none⟩ = some (.int .u64 (nb (setOf Dm))))
          (first
            | go_keep
            | (have hcc : ∀ b o, b < W.heap.size → w5.cell? ⟨b, o, none⟩ = W.cell? ⟨b, o, none⟩ := fun b o h => (bcell HB5.out).1 b o h
               exact ⟨(hcc _ _ h23).trans n0, (hcc _ _ h23).trans n1, (hcc _ _ h23).trans n2, (hcc _ _ h23).trans n3, (hcc _ _ h23).trans n4, (hcc _ _ h23).trans n5, (hcc _ _ h23).trans n6, (hcc _ _ h23).trans n7, (hcc _ _ hbs).trans cs0⟩))
          (first
            | (go_at_call 11; (with_reducible refine (reached_c _ _ _ _ _ _ _ _ S1 _ (HRS.out.below (by repeat (first | (with_reducible refine hd ?_) | (with_reducible exact Below.refl _ _) | (with_reducible assumption) | (with_reducible refine Below.alloc ?_ (by first | (simp; done) | (simp; omega) | omega) _) | (with_reducible refine Below.setCell ?_ (by first | (simp; done) | (simp; omega) | omega) _) | (with_reducible refine Below.drew ?_) | (with_reducible refine Below.drewN ?_ _) | (with_reducible refine Below.step ?_ (by with_reducible assumption))))) HLN.out HRR.out).mono ?_); rintro e w5 ⟨rfl, hb5⟩; rw [HRE.out]; have HB5 := hd hb5; clear hb5))
        go_upto_region 40 with fail
        have hB5 : Below W.heap.size W w5 := (Below.drew (Below.refl _ _)).trans HB5.out
        refine gen_wp (fun X => MirW w P1 p1 P2 p2 P3 p3 P4 p4 gb S0 (.slice (some ⟨bs, os, none⟩) D.length sc) D A1 d1 A2 d2 A3 d3 A4 d4 A5 d5 A6 d6 X ∧ X.heap[b23]? = some (.cells #[.int .i64 S1.number, .int .i64 S1.phase, .slice E1 S1.plan.fr.length g1, .slice E2 S1.plan.to.length g2, .slice E3 S1.plan.steps.length g3, .slice E4 S1.plan.before.length g4, .slice E5 S1.opn.length g5, .slice E6 S1.done.length g6] 31 (0, 0)) ∧ RowSt X w.heap.size (.slice E1 S1.plan.fr.length g1) (.slice E2 S1.plan.to.length g2) (.slice E3 S1.plan.steps.length g3) (.slice E4 S1.plan.before.length g4) (.slice E5 S1.opn.length g5) (.slice E6 S1.done.length g6) S1)
          ⟨HW.out.keep hB5, (hB5.block _ h23).trans HG2.out, HROW2.out.below hB5⟩ ?_
        clear hB5 HB5 HW HROW2 HG2 HRS cs0 hbs h23 hw1 hw2 hm0 hm1 n0 n1 n2 n3 n4 n5 n6 n7
        intro W2 hWW
        obtain ⟨hW, hg2, hrow2⟩ := hWW
        have n0 := cell_of_row W2 _ 0 _ _ _ hg2
        have n1 := cell_of_row W2 _ 1 _ _ _ hg2
        have n2 := cell_of_row W2 _ 2 _ _ _ hg2
        have n3 := cell_of_row W2 _ 3 _ _ _ hg2
        have n4 := cell_of_row W2 _ 4 _ _ _ hg2
        have n5 := cell_of_row W2 _ 5 _ _ _ hg2
        have n6 := cell_of_row W2 _ 6 _ _ _ hg2
        have n7 := cell_of_row W2 _ 7 _ _ _ hg2
        have s0 := cell_of_row W2 _ 0 _ _ _ hW.hg
        have s1 := cell_of_row W2 _ 1 _ _ _ hW.hg
        have s2 := cell_of_row W2 _ 2 _ _ _ hW.hg
        have s3 := cell_of_row W2 _ 3 _ _ _ hW.hg
        have s4 := cell_of_row W2 _ 4 _ _ _ hW.hg
        have s5 := cell_of_row W2 _ 5 _ _ _ hW.hg
        have s6 := cell_of_row W2 _ 6 _ _ _ hW.hg
        have s7 := cell_of_row W2 _ 7 _ _ _ hW.hg
        have zz := fun j => frozen_of_row W2 _ j _ _ hW.hg
        have HW := hd hW; have HROW2 := hd hrow2
        clear hW hg2 hrow2
        go_wp2
        go_roundw
        case rel =>
          refine ⟨j + 1, by omega, by go_num, ?_, ?_⟩
          · rw [HE1.out, HDM.out, HS1.out]; exact HGN
          · rw [HE1.out, HDM.out, HS1.out]; exact ⟨_, _, _, _, _, _, _, _, _, _, _, _, HW.out.put HPL.out HROW2.out⟩
        case measure => simp [intOf]; omega
      · have : j = D.length := by omega
        subst this
        rw [Nat.sub_self, List.take_zero] at hW
        have HBS := hd (mir_bd (p := p) (ph := 2) (o := []) (D := []) HPB.out (by simp) (by simp))
        have HEN := hd (mir_ends (p := p))
        have hre : nb (setOf ((mir p 2 [] []).opn ++ (mir p 2 [] []).done)) = 0 := by
          have e : (mir p 2 [] []).opn ++ (mir p 2 [] []).done = [] := rfl
          rw [e, setOf_nil, nb_zero]
        have hrr : ∀ k ∈ (mir p 2 [] []).opn ++ (mir p 2 [] []).done, 0 ≤ k ∧ k < 64 := fun k hk => by
          have hk2 : k ∈ ([] : List Int) := hk
          cases hk2
        have hln : (mir p 2 [] []).opn.length + (mir p 2 [] []).done.length ≤ 1000000 := by show 0 + 0 ≤ 1000000; omega
        have HRE := hd hre; have HRR := hd hrr; have HLN := hd hln
        clear hre hrr hln
        generalize mir p 2 [] [] = S0 at *
        have s0 := cell_of_row wr _ 0 _ _ _ hW.hg
        have s1 := cell_of_row wr _ 1 _ _ _ hW.hg
        have s2 := cell_of_row wr _ 2 _ _ _ hW.hg
        have s3 := cell_of_row wr _ 3 _ _ _ hW.hg
        have s4 := cell_of_row wr _ 4 _ _ _ hW.hg
        have s5 := cell_of_row wr _ 5 _ _ _ hW.hg
        have s6 := cell_of_row wr _ 6 _ _ _ hW.hg
        have s7 := cell_of_row wr _ 7 _ _ _ hW.hg
        have hsz := hW.bd
        obtain ⟨hsz1, hsz2⟩ := hsz
        have HRS := hd (hW.row.reads HBS.out)
        have HW := hd hW
        clear hW
        go_wp2_with (first
          | (go_at_call 15; (with_reducible refine (ends_c _ _ _ _ _ _ _ _ _ HRS.out).mono ?_); rintro e w3 ⟨rfl, hb3⟩; rw [HEN.out]; obtain ⟨hc3, hf3⟩ := bcell hb3; have hz3 := bge hb3; have HB3 := hd hb3; clear hb3)
          | (go_at_call 11; go_must ((with_reducible refine (reached_c _ _ _ _ _ _ _ _ S0 _ (HRS.out.below HB3.out) HLN.out HRR.out).mono ?_); rintro e w5 ⟨rfl, hb5⟩; rw [HRE.out]; have HB5 := hd hb5; clear hb5)))
        go_ret
        exact ⟨rfl, HW.out.below.trans ((HB3.out.trans (HB5.out.mono hz3)).mono (by omega))⟩
end Go.Proofs.YtaamjpeehejafaaDoor
