/- SagaMirrors: where the guards let go. -/
import Derived.Test.YtaamjpeehejafaaDoorMir3
set_option linter.unusedSimpArgs false
set_option linter.unusedVariables false
namespace Go.Proofs.YtaamjpeehejafaaDoor
open Go Go.RowKit

set_option maxRecDepth 100000 in
set_option maxHeartbeats 1000000 in
theorem mirrors_no1 (v1 v2 v3 v4 vp : Value) (p : Plan) (picks : List Int) (w : World) (hr : RPlan w v1 v2 v3 v4 p) (hpk : Sl w vp picks.length (ints picks)) (hT : Tab w) (hm : madeOk p = false) :
    Calls Tryd.prog 4 #[.agg #[v1, v2, v3, v4], vp] w fun e w' => e = .returned (.bool true) ∧ Below w.heap.size w w' := by
  obtain ⟨P1, p1, rfl⟩ := hr.fr.len
  obtain ⟨P2, p2, rfl⟩ := hr.to.len
  obtain ⟨P3, p3, rfl⟩ := hr.steps.len
  obtain ⟨P4, p4, rfl⟩ := hr.before.len
  obtain ⟨PP, pp, rfl⟩ := hpk.len
  have HR := hd hr; have HPK := hd hpk; have HT := hd hT; have HM := hd hm
  clear hr hpk hT hm
  go_enter Tryd.func4, Tryd.ntmps4
  go_wp2_with (first
    | (go_at_call 6; (with_reducible refine (anchor_c _ (HT.out.below (B := w.heap.size) (by repeat (first | (with_reducible refine hd ?_) | (with_reducible exact Below.refl _ _) | (with_reducible assumption) | (with_reducible refine Below.alloc ?_ (by first | (simp; done) | (simp; omega) | omega) _) | (with_reducible refine Below.setCell ?_ (by first | (simp; done) | (simp; omega) | omega) _) | (with_reducible refine Below.drew ?_) | (with_reducible refine Below.drewN ?_ _) | (with_reducible refine Below.step ?_ (by with_reducible assumption)))) HT.out.pos)).mono ?_); rintro e wa ⟨rfl, hb1⟩; obtain ⟨hc1, hf1⟩ := bcell hb1; have hz1 := bgt hb1; have HB1 := hd hb1; clear hb1)
    | (go_at_call 12; (with_reducible refine (made_c _ _ _ _ p _ (HR.out.below (Below.trans (Below.box _ _) (HB1.out.mono (by simp))))).mono ?_); intro e wm hpost; obtain ⟨rfl, hb2⟩ := hpost.no HM.out; obtain ⟨hc2, hf2⟩ := bcell hb2; have hz2 := bge hb2; have hz3 : w.heap.size < wm.heap.size := Nat.lt_of_lt_of_le hz1 hz2; have HB2 := hd hb2; clear hpost hb2; have HBM := hd (show Below w.heap.size w wm from (Below.trans (Below.box _ _) (HB1.out.mono (by simp))).trans (HB2.out.mono (by omega))))
    )
  go_ret
  exact ⟨rfl, Below.alloc HBM.out (by omega) _⟩
set_option maxRecDepth 100000 in
set_option maxHeartbeats 1000000 in
theorem mirrors_no2 (v1 v2 v3 v4 vp : Value) (p : Plan) (picks : List Int) (w : World) (hr : RPlan w v1 v2 v3 v4 p) (hpk : Sl w vp picks.length (ints picks)) (hT : Tab w) (hm : madeOk p = true) (h40 : (40 : Int) < (picks.length : Int)) :
    Calls Tryd.prog 4 #[.agg #[v1, v2, v3, v4], vp] w fun e w' => e = .returned (.bool true) ∧ Below w.heap.size w w' := by
  obtain ⟨P1, p1, rfl⟩ := hr.fr.len
  obtain ⟨P2, p2, rfl⟩ := hr.to.len
  obtain ⟨P3, p3, rfl⟩ := hr.steps.len
  obtain ⟨P4, p4, rfl⟩ := hr.before.len
  obtain ⟨PP, pp, rfl⟩ := hpk.len
  have HR := hd hr; have HPK := hd hpk; have HT := hd hT; have HM := hd hm
  clear hr hpk hT hm
  go_enter Tryd.func4, Tryd.ntmps4
  go_wp2_with (first
    | (go_at_call 6; (with_reducible refine (anchor_c _ (HT.out.below (B := w.heap.size) (by repeat (first | (with_reducible refine hd ?_) | (with_reducible exact Below.refl _ _) | (with_reducible assumption) | (with_reducible refine Below.alloc ?_ (by first | (simp; done) | (simp; omega) | omega) _) | (with_reducible refine Below.setCell ?_ (by first | (simp; done) | (simp; omega) | omega) _) | (with_reducible refine Below.drew ?_) | (with_reducible refine Below.drewN ?_ _) | (with_reducible refine Below.step ?_ (by with_reducible assumption)))) HT.out.pos)).mono ?_); rintro e wa ⟨rfl, hb1⟩; obtain ⟨hc1, hf1⟩ := bcell hb1; have hz1 := bgt hb1; have HB1 := hd hb1; clear hb1)
    | (go_at_call 12; (with_reducible refine (made_c _ _ _ _ p _ (HR.out.below (Below.trans (Below.box _ _) (HB1.out.mono (by simp))))).mono ?_); intro e wm hpost; obtain ⟨B5, e5, rfl, ho2, hb2⟩ := hpost.yes HM.out; obtain ⟨hc2, hf2⟩ := bcell hb2; have hz2 := bge hb2; have hz3 : w.heap.size < wm.heap.size := Nat.lt_of_lt_of_le hz1 hz2; have HB2 := hd hb2; clear hpost hb2; have HBM := hd (show Below w.heap.size w wm from (Below.trans (Below.box _ _) (HB1.out.mono (by simp))).trans (HB2.out.mono (by omega))))
    )
  go_ret
  exact ⟨rfl, Below.alloc HBM.out (by omega) _⟩
set_option maxRecDepth 100000 in
set_option maxHeartbeats 1000000 in
theorem mirrors_no3 (v1 v2 v3 v4 vp : Value) (p : Plan) (picks : List Int) (w : World) (hr : RPlan w v1 v2 v3 v4 p) (hpk : Sl w vp picks.length (ints picks)) (hT : Tab w) (hm : madeOk p = true) (h40 : (picks.length : Int) ≤ 40) (ht : (St.zero.take ⟨1, 0, p⟩).2 ≠ 0) :
    Calls Tryd.prog 4 #[.agg #[v1, v2, v3, v4], vp] w fun e w' => e = .returned (.bool true) ∧ Below w.heap.size w w' := by
  obtain ⟨P1, p1, rfl⟩ := hr.fr.len
  obtain ⟨P2, p2, rfl⟩ := hr.to.len
  obtain ⟨P3, p3, rfl⟩ := hr.steps.len
  obtain ⟨P4, p4, rfl⟩ := hr.before.len
  obtain ⟨PP, pp, rfl⟩ := hpk.len
  have hpbd : p.bd := madeOk_bd hm
  have HTK : Hid (∀ w', RPlan w' (.slice P1 p.fr.length p1) (.slice P2 p.to.length p2) (.slice P3 p.steps.length p3) (.slice P4 p.before.length p4) p → Tab w' → Calls Tryd.prog 8 #[.agg #[.int .i64 0, .int .i64 0, .slice none 0 0, .slice none 0 0, .slice none 0 0, .slice none 0 0, .slice none 0 0, .slice none 0 0], .agg #[.int .i64 1, .int .i64 0, .slice P1 p.fr.length p1, .slice P2 p.to.length p2, .slice P3 p.steps.length p3, .slice P4 p.before.length p4]] w' (TakePost w' (St.zero.take ⟨1, 0, p⟩).1 (St.zero.take ⟨1, 0, p⟩).2)) := fun w' h1 h2 =>
    take_c _ _ _ _ _ _ _ _ _ _ St.zero ⟨1, 0, p⟩ w' (RSt.zero w') h1 h2 hpbd (St.fits.zero.bd (by decide)) ((St.fits.zero.step ⟨1, 0, p⟩ hpbd).bd (by decide)) (by decide)
  have HTK2 := HTK.out
  clear HTK
  generalize (St.zero.take ⟨1, 0, p⟩).1 = S1 at HTK2
  generalize (St.zero.take ⟨1, 0, p⟩).2 = er at HTK2 ht
  have hb1' : (er != 0) = true := by simpa using ht
  have hb2' : (er == 0) = false := by simpa using ht
  have HR := hd hr; have HPK := hd hpk; have HT := hd hT; have HM := hd hm; have HTK := hd HTK2
  clear hr hpk hT hm ht hpbd HTK2
  go_enter Tryd.func4, Tryd.ntmps4
  go_wp2_with (first
    | (go_at_call 6; (with_reducible refine (anchor_c _ (HT.out.below (B := w.heap.size) (by repeat (first | (with_reducible refine hd ?_) | (with_reducible exact Below.refl _ _) | (with_reducible assumption) | (with_reducible refine Below.alloc ?_ (by first | (simp; done) | (simp; omega) | omega) _) | (with_reducible refine Below.setCell ?_ (by first | (simp; done) | (simp; omega) | omega) _) | (with_reducible refine Below.drew ?_) | (with_reducible refine Below.drewN ?_ _) | (with_reducible refine Below.step ?_ (by with_reducible assumption)))) HT.out.pos)).mono ?_); rintro e wa ⟨rfl, hb1⟩; obtain ⟨hc1, hf1⟩ := bcell hb1; have hz1 := bgt hb1; have HB1 := hd hb1; clear hb1)
    | (go_at_call 12; (with_reducible refine (made_c _ _ _ _ p _ (HR.out.below (Below.trans (Below.box _ _) (HB1.out.mono (by simp))))).mono ?_); intro e wm hpost; obtain ⟨B5, e5, rfl, ho2, hb2⟩ := hpost.yes HM.out; obtain ⟨hc2, hf2⟩ := bcell hb2; have hz2 := bge hb2; have hz3 : w.heap.size < wm.heap.size := Nat.lt_of_lt_of_le hz1 hz2; have HB2 := hd hb2; clear hpost hb2; have HBM := hd (show Below w.heap.size w wm from (Below.trans (Below.box _ _) (HB1.out.mono (by simp))).trans (HB2.out.mono (by omega))))
    | (go_at_call 8; go_must ((with_reducible refine (HTK.out _ (HR.out.below (Below.alloc HBM.out (by omega) _)) (HT.out.below (B := w.heap.size) (Below.alloc HBM.out (by omega) _) HT.out.pos)).mono ?_); rintro e w2 ⟨u1, u2, u3, u4, u5, u6, rfl, hrow2, hb3⟩; obtain ⟨hc3, hf3⟩ := bcell hb3; have hz4 := bgt hb3; have HB3 := hd hb3; obtain ⟨E1, g1, E2, g2, E3, g3, E4, g4, E5, g5, E6, g6, rfl, rfl, rfl, rfl, rfl, rfl⟩ := hrow2.slices; clear hb3 hrow2)))
  go_ret
  exact ⟨rfl, Below.alloc ((Below.alloc HBM.out (by omega) _).trans (HB3.out.mono (by simp; omega))) (by omega) _⟩
theorem mirrors_law (v1 v2 v3 v4 vp : Value) (p : Plan) (picks : List Int) (w : World) (hr : RPlan w v1 v2 v3 v4 p) (hpk : Sl w vp picks.length (ints picks)) (hT : Tab w) :
    Calls Tryd.prog 4 #[.agg #[v1, v2, v3, v4], vp] w fun e w' => e = .returned (.bool true) ∧ Below w.heap.size w w' := by
  cases hm : madeOk p with
  | false => exact mirrors_no1 v1 v2 v3 v4 vp p picks w hr hpk hT hm
  | true =>
    by_cases h40 : (picks.length : Int) ≤ 40
    · by_cases ht : (St.zero.take ⟨1, 0, p⟩).2 = 0
      · exact mirrors_yes v1 v2 v3 v4 vp p picks w hr hpk hT hm h40 ht
      · exact mirrors_no3 v1 v2 v3 v4 vp p picks w hr hpk hT hm h40 ht
    · exact mirrors_no2 v1 v2 v3 v4 vp p picks w hr hpk hT hm (by omega)
end Go.Proofs.YtaamjpeehejafaaDoor
