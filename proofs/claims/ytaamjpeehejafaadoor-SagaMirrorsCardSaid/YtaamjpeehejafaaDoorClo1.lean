/- The walk of SagaClosed: up to the loop. -/
import Derived.Test.YtaamjpeehejafaaDoorAnch4
import Derived.Test.YtaamjpeehejafaaDoorLaw4
set_option linter.unusedSimpArgs false
set_option linter.unusedVariables false
namespace Go.Proofs.YtaamjpeehejafaaDoor
open Go Go.RowKit

theorem madeOk_bd {p : Plan} (h : madeOk p = true) : p.bd := by
  simp only [madeOk, Bool.and_eq_true, decide_eq_true_eq] at h
  obtain ⟨⟨⟨h1, h2⟩, h3⟩, h4⟩ := h
  exact ⟨by omega, by omega, by omega, by omega⟩
set_option maxRecDepth 100000 in
set_option maxHeartbeats 1000000 in
theorem closed_no (v : Value) (rs : List Rec) (vs : List PV) (w : World) (hs : RRecs w v rs vs) (hT : Tab w) (hm : smallB rs 60 = false) :
    Calls Tryd.prog 3 #[v] w fun e w' => e = .returned (.bool true) ∧ Below w.heap.size w w' := by
  have HS := hd hs; have HT := hd hT; have HM := hd hm
  clear hs hT hm
  go_enter Tryd.func3, Tryd.ntmps3
  go_wp2_with (first
    | (go_at_call 6; (with_reducible refine (anchor_c _ HT.out).mono ?_); rintro e w1 ⟨rfl, hb1⟩; have HB1 := hd hb1; clear hb1)
    | (go_at_call 7; (with_reducible refine (small_c _ rs vs _ _ (HS.out.below HB1.out)).mono ?_); rintro e w2 ⟨rfl, hb2⟩; rw [HM.out]; have HB2 := hd hb2; clear hb2))
  go_ret
  exact ⟨rfl, Below.step HB1.out HB2.out⟩
end Go.Proofs.YtaamjpeehejafaaDoor
