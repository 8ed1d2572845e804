/- Contracts: the anchor's walk. -/
import Derived.Test.YtaamjpeehejafaaDoorAnch3
import Derived.Deep.Cut
set_option linter.unusedSimpArgs false
set_option linter.unusedVariables false
namespace Go.Proofs.YtaamjpeehejafaaDoor
open Go Go.RowKit

set_option maxRecDepth 100000 in
set_option maxHeartbeats 1000000 in
theorem anchor_c (w : World) (hT : Tab w) :
    Calls Tryd.prog 6 #[] w fun e w' => e = .returned (.bool true) ∧ Below w.heap.size w w' := by
  have HT := hd hT
  clear hT
  go_enter Tryd.func6, Tryd.ntmps6
  go_upto_region 3 with (go_at_call 22; go_must (obtain ⟨q1, q2, q3⟩ := four_new w _ _ _ _; (with_reducible refine (aReplay _ _ _ (aReads q1 q2 q3) (HT.out.below (B := w.heap.size) (by repeat (first | (with_reducible refine hd ?_) | (with_reducible exact Below.refl _ _) | (with_reducible assumption) | (with_reducible refine Below.alloc ?_ (by first | (simp; done) | (simp; omega) | omega) _) | (with_reducible refine Below.setCell ?_ (by first | (simp; done) | (simp; omega) | omega) _) | (with_reducible refine Below.drew ?_) | (with_reducible refine Below.drewN ?_ _) | (with_reducible refine Below.step ?_ (by with_reducible assumption)))) HT.out.pos)).mono ?_); rintro e w2 ⟨A1, c1, A2, c2, A3, c3, A4, c4, A5, c5, A6, c6, rfl, hrow, hb⟩))
  refine gen_wp (fun W => W.heap[w2.heap.size]? = some (.cells #[.int .i64 1, .int .i64 2, .slice A1 0 c1, .slice A2 0 c2, .slice A3 2 c3, .slice A4 1 c4, .slice A5 1 c5, .slice A6 0 c6] 31 (0, 0)) ∧ RSt W (.slice A1 0 c1) (.slice A2 0 c2) (.slice A3 2 c3) (.slice A4 1 c4) (.slice A5 1 c5) (.slice A6 0 c6) a3 ∧ Below w.heap.size w W ∧ w2.heap.size < W.heap.size) ⟨heap_alloc_new _ _, (hrow.reads bd3).below (Below.box _ _), Below.alloc (Below.trans (by repeat (first | (with_reducible refine hd ?_) | (with_reducible exact Below.refl _ _) | (with_reducible assumption) | (with_reducible refine Below.alloc ?_ (by first | (simp; done) | (simp; omega) | omega) _) | (with_reducible refine Below.setCell ?_ (by first | (simp; done) | (simp; omega) | omega) _) | (with_reducible refine Below.drew ?_) | (with_reducible refine Below.drewN ?_ _) | (with_reducible refine Below.step ?_ (by with_reducible assumption)))) (hb.mono (by simp; omega))) (by have := hb.size; simp at this; omega) _, by simp⟩ ?_
  clear q1 q2 q3 hrow hb
  generalize w2.heap.size = b
  clear w2
  intro W ⟨hg, hr, hbW, hlt⟩
  have c0' := cell_of_row W _ 0 _ _ _ hg
  have c1' := cell_of_row W _ 1 _ _ _ hg
  have c2' := cell_of_row W _ 2 _ _ _ hg
  have c3' := cell_of_row W _ 3 _ _ _ hg
  have c4' := cell_of_row W _ 4 _ _ _ hg
  have c5' := cell_of_row W _ 5 _ _ _ hg
  have c6' := cell_of_row W _ 6 _ _ _ hg
  have c7' := cell_of_row W _ 7 _ _ _ hg
  have HR := hd hr; have HB := hd hbW
  have hzW := hbW.size
  clear hg hr hbW
  go_wp2_with (first
    | (go_at_call 14; go_must ((with_reducible refine (aTopC _ _ _ _ _ _ _ _ _ _ _ _ _ HR.out).mono ?_); rintro e w3 ⟨rfl, hb3⟩; obtain ⟨hc3, hf3⟩ := bcell hb3; have hz3 : b < w3.heap.size := Nat.lt_of_lt_of_le hlt (bge hb3); have hy3 := bge hb3; have HB3 := hd hb3; clear hb3))
    | (go_at_call 13; go_must (have hx3 := HB3.out; have hx4 := HB4.out; have hx5 := HB5.out; (with_reducible refine (aMayC _ _ _ _ _ _ _ _ _ _ _ _ _ (HR.out.below (by repeat (first | (with_reducible refine hd ?_) | (with_reducible exact Below.refl _ _) | (with_reducible assumption) | (with_reducible refine Below.alloc ?_ (by first | (simp; done) | (simp; omega) | omega) _) | (with_reducible refine Below.setCell ?_ (by first | (simp; done) | (simp; omega) | omega) _) | (with_reducible refine Below.drew ?_) | (with_reducible refine Below.drewN ?_ _) | (with_reducible refine Below.step ?_ (by with_reducible assumption)))))).mono ?_); rintro e w6 ⟨rfl, hb6⟩; obtain ⟨hc6, hf6⟩ := bcell hb6; have HB6 := hd hb6; clear hb6 hx3 hx4 hx5))
    | (go_at_call 8; (with_reducible refine (aTake6C _ _ _ _ _ _ _ _ _ _ _ _ _ (HR.out.below HB3.out) (HT.out.below (B := w.heap.size) (HB.out.trans (HB3.out.mono hzW)) HT.out.pos)).mono ?_); rintro e w4 ⟨E1, g1, E2, g2, E3, g3, E4, g4, E5, g5, E6, g6, rfl, hrow4, hb4⟩; obtain ⟨hc4, hf4⟩ := bcell hb4; have hz4 : b < w4.heap.size := Nat.lt_of_lt_of_le hz3 (bge hb4); have hy4 := bge hb4; have HB4 := hd hb4; have HR4 := hd (hrow4.reads bd4); clear hb4 hrow4)
    | (go_at_call 8; go_must ((with_reducible refine (aTake8C _ _ _ _ _ _ _ _ _ _ _ _ _ (HR4.out.below (Below.box _ _)) (HT.out.below (B := w.heap.size) (Below.alloc ((HB.out.trans (HB3.out.mono hzW)).trans (HB4.out.mono (by omega))) (by omega) _) HT.out.pos)).mono ?_); rintro e w5 ⟨D1, l1, D2, l2, D3, l3, D4, l4, D5, l5, D6, l6, rfl, hrow5, hb5⟩; obtain ⟨hc5, hf5⟩ := bcell hb5; have hz5 : b < w5.heap.size := Nat.lt_trans hz4 (bgt hb5); have hy5 := bgt hb5; have HB5 := hd hb5; clear hb5 hrow5)))
  go_ret
  have hx0 := HB.out; have hx3 := HB3.out; have hx4 := HB4.out; have hx5 := HB5.out; have hx6 := HB6.out
  exact ⟨rfl, (by repeat (first | (with_reducible refine hd ?_) | (with_reducible exact Below.refl _ _) | (with_reducible assumption) | (with_reducible refine Below.alloc ?_ (by first | (simp; done) | (simp; omega) | omega) _) | (with_reducible refine Below.setCell ?_ (by first | (simp; done) | (simp; omega) | omega) _) | (with_reducible refine Below.drew ?_) | (with_reducible refine Below.drewN ?_ _) | (with_reducible refine Below.step ?_ (by with_reducible assumption))))⟩
end Go.Proofs.YtaamjpeehejafaaDoor
