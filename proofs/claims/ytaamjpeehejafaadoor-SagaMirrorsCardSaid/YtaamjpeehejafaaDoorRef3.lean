/- Contracts: small, Replay; lists of records. -/
import Derived.Test.YtaamjpeehejafaaDoorRef2
set_option linter.unusedSimpArgs false
set_option linter.unusedVariables false
namespace Go.Proofs.YtaamjpeehejafaaDoor
open Go Go.RowKit

abbrev PV := Value × Value × Value × Value
def recCells : List Rec → List PV → List Value
  | r :: rs, v :: vs => .int .i64 r.kind :: .int .i64 r.step :: v.1 :: v.2.1 :: v.2.2.1 :: v.2.2.2 :: recCells rs vs
  | _, _ => []
theorem recCells_get : ∀ (rs : List Rec) (vs : List PV) (j : Nat) (h : j < rs.length) (h' : j < vs.length),
    (recCells rs vs)[j*6]? = some (.int .i64 rs[j].kind) ∧ (recCells rs vs)[j*6+1]? = some (.int .i64 rs[j].step) ∧ (recCells rs vs)[j*6+2]? = some vs[j].1 ∧ (recCells rs vs)[j*6+3]? = some vs[j].2.1 ∧ (recCells rs vs)[j*6+4]? = some vs[j].2.2.1 ∧ (recCells rs vs)[j*6+5]? = some vs[j].2.2.2
  | r :: rs, v :: vs, 0, _, _ => by simp [recCells]
  | r :: rs, v :: vs, j + 1, h, h' => by
    have := recCells_get rs vs j (by simpa using h) (by simpa using h')
    simp only [recCells, Nat.add_mul, Nat.one_mul, List.getElem_cons_succ]
    exact this
structure RRecs (w : World) (v : Value) (rs : List Rec) (vs : List PV) : Prop where
  len : vs.length = rs.length
  cells : Sl w v rs.length (recCells rs vs)
  plans : ∀ j (h : j < rs.length) (h' : j < vs.length), RPlan w vs[j].1 vs[j].2.1 vs[j].2.2.1 vs[j].2.2.2 rs[j].plan
theorem RRecs.below {w w' : World} {v : Value} {rs : List Rec} {vs : List PV} (h : RRecs w v rs vs) (hb : Below w.heap.size w w') : RRecs w' v rs vs :=
  ⟨h.len, h.cells.below hb, fun j a b => (h.plans j a b).below hb⟩
/-- the record at j: its six cells and its plan -/
theorem RRecs.at {w : World} {A : Option Addr} {c : Nat} {rs : List Rec} {vs : List PV} (h : RRecs w (.slice A rs.length c) rs vs) (j : Nat) (hj : j < rs.length) :
    ∃ b off B1 e1 B2 e2 B3 e3 B4 e4, A = some ⟨b, off, none⟩ ∧ b < w.heap.size ∧ w.cell? ⟨b, off + j * 6, none⟩ = some (.int .i64 rs[j].kind) ∧ w.cell? ⟨b, off + j * 6 + 1, none⟩ = some (.int .i64 rs[j].step) ∧
      w.cell? ⟨b, off + j * 6 + 2, none⟩ = some (.slice B1 rs[j].plan.fr.length e1) ∧ w.cell? ⟨b, off + j * 6 + 3, none⟩ = some (.slice B2 rs[j].plan.to.length e2) ∧ w.cell? ⟨b, off + j * 6 + 4, none⟩ = some (.slice B3 rs[j].plan.steps.length e3) ∧ w.cell? ⟨b, off + j * 6 + 5, none⟩ = some (.slice B4 rs[j].plan.before.length e4) ∧
      RPlan w (.slice B1 rs[j].plan.fr.length e1) (.slice B2 rs[j].plan.to.length e2) (.slice B3 rs[j].plan.steps.length e3) (.slice B4 rs[j].plan.before.length e4) rs[j].plan := by
  have hv : j < vs.length := by rw [h.len]; exact hj
  obtain ⟨g0, g1, g2, g3, g4, g5⟩ := recCells_get rs vs j hj hv
  have hne : recCells rs vs ≠ [] := by intro e; rw [e] at g0; simp at g0
  obtain ⟨b, off, rfl, hc⟩ := h.cells.cells hne
  have hp := h.plans j hj hv
  obtain ⟨B1, e1, q1⟩ := hp.fr.len
  obtain ⟨B2, e2, q2⟩ := hp.to.len
  obtain ⟨B3, e3, q3⟩ := hp.steps.len
  obtain ⟨B4, e4, q4⟩ := hp.before.len
  rw [q1, q2, q3, q4] at hp
  rw [q1] at g2; rw [q2] at g3; rw [q3] at g4; rw [q4] at g5
  have k0 := hc _ _ g0
  exact ⟨b, off, B1, e1, B2, e2, B3, e3, B4, e4, rfl, lt_of_cells k0, k0, by rw [Nat.add_assoc]; exact hc _ _ g1, by rw [Nat.add_assoc]; exact hc _ _ g2, by rw [Nat.add_assoc]; exact hc _ _ g3, by rw [Nat.add_assoc]; exact hc _ _ g4, by rw [Nat.add_assoc]; exact hc _ _ g5, hp⟩

def okRec (r : Rec) : Bool := madeOk r.plan
def smallB (rs : List Rec) (m : Int) : Bool := rs.all okRec && decide ((rs.length : Int) ≤ m)
theorem all_at {α : Type} {p : α → Bool} {l : List α} (j : Nat) (h2 : j < l.length) (h : p l[j] = false) : l.all p = false := by
  rw [List.all_eq_false]; exact ⟨_, List.getElem_mem h2, by rw [h]; decide⟩
theorem all_take_yes {α : Type} {p : α → Bool} {l : List α} (h : ∀ j (h2 : j < l.length), p l[j] = true) : l.all p = true := by
  rw [List.all_eq_true]; intro x hx
  obtain ⟨j, hj, rfl⟩ := List.getElem_of_mem hx
  exact h j hj
set_option maxRecDepth 100000 in
set_option maxHeartbeats 1000000 in
theorem small_c (v : Value) (rs : List Rec) (vs : List PV) (m : Int) (w : World) (hs : RRecs w v rs vs) :
    Calls Tryd.prog 7 #[v, .int .i64 m] w fun e w' => e = .returned (.bool (smallB rs m)) ∧ Below w.heap.size w w' := by
  obtain ⟨A, c, rfl⟩ := hs.cells.len
  have hlb := hs.cells.small
  have HS := hd hs
  clear hs
  go_enter Tryd.func7, Tryd.ntmps7
  go_wp2
  go_loopw [6, 7, 8, 11] (fun _ _ _ i wr => ∃ k : Nat, k ≤ rs.length ∧ i = .int .i64 k ∧ Hid (∀ j, j < k → ∀ (h2 : j < rs.length), okRec rs[j] = true) ∧ Hid (Below w.heap.size w wr)) (fun _ _ _ i _ => rs.length - (intOf i).toNat)
  case atStart => exact ⟨0, Nat.zero_le _, rfl, fun j h => by omega, Below.refl _ _⟩
  case round =>
    obtain ⟨k, hk, rfl, hall, hB⟩ := hrel
    by_cases hlt : k < rs.length
    · obtain ⟨b, off, B1, e1, B2, e2, B3, e3, B4, e4, rfl, hbl, c0, c1, c2, c3, c4, c5, hp⟩ := (HS.out.below hB.out).at k hlt
      have HO : Hid (okRec rs[k] = madeOk rs[k].plan) := rfl
      generalize rs[k].kind = kd at c0
      generalize rs[k].step = st at c1
      generalize rs[k].plan = p at c2 c3 c4 c5 hp HO
      have HP := hd hp
      clear hp
      cases hm : madeOk p with
      | true =>
        have HG : Hid (okRec rs[k] = true) := by rw [Hid, HO.out, hm]
        have HM := hd hm
        clear hm
        go_wp2_with (go_at_call 12; (with_reducible refine (made_c _ _ _ _ p _ (HP.out.below (by repeat (first | (with_reducible refine hd ?_) | (with_reducible exact Below.refl _ _) | (with_reducible assumption) | (with_reducible refine Below.alloc ?_ (by first | (simp; done) | (simp; omega) | omega) _) | (with_reducible refine Below.setCell ?_ (by first | (simp; done) | (simp; omega) | omega) _) | (with_reducible refine Below.drew ?_) | (with_reducible refine Below.drewN ?_ _) | (with_reducible refine Below.step ?_ (by with_reducible assumption)))))).mono ?_); intro e w2 hpost; obtain ⟨B5, e5, rfl, ho2, hb2⟩ := hpost.yes HM.out; obtain ⟨hc2, hf2⟩ := bcell hb2; have hz2 := bgt hb2; have HB2 := hd hb2; clear hpost ho2 hb2)
        have hx0 := hB.out; have hzz := hx0.size
        have hx2 := HB2.out
        go_roundw
        case rel => exact ⟨k + 1, by omega, by go_num, all_snoc hall.out (fun _ => HG.out), (by repeat (first | (with_reducible refine hd ?_) | (with_reducible exact Below.refl _ _) | (with_reducible assumption) | (with_reducible refine Below.alloc ?_ (by first | (simp; done) | (simp; omega) | omega) _) | (with_reducible refine Below.setCell ?_ (by first | (simp; done) | (simp; omega) | omega) _) | (with_reducible refine Below.drew ?_) | (with_reducible refine Below.drewN ?_ _) | (with_reducible refine Below.step ?_ (by with_reducible assumption))))⟩
        case measure => simp [intOf]; omega
      | false =>
        have HG : Hid (okRec rs[k] = false) := by rw [Hid, HO.out, hm]
        have HM := hd hm
        have Hr : Hid (smallB rs m = false) := by unfold Hid smallB; rw [all_at k hlt HG.out]; rfl
        clear hm
        go_wp2_with (go_at_call 12; (with_reducible refine (made_c _ _ _ _ p _ (HP.out.below (by repeat (first | (with_reducible refine hd ?_) | (with_reducible exact Below.refl _ _) | (with_reducible assumption) | (with_reducible refine Below.alloc ?_ (by first | (simp; done) | (simp; omega) | omega) _) | (with_reducible refine Below.setCell ?_ (by first | (simp; done) | (simp; omega) | omega) _) | (with_reducible refine Below.drew ?_) | (with_reducible refine Below.drewN ?_ _) | (with_reducible refine Below.step ?_ (by with_reducible assumption)))))).mono ?_); intro e w2 hpost; obtain ⟨rfl, hb2⟩ := hpost.no HM.out; obtain ⟨hc2, hf2⟩ := bcell hb2; have hz2 := bgt hb2; have HB2 := hd hb2; clear hpost hb2)
        have hx0 := hB.out; have hzz := hx0.size
        have hx2 := HB2.out
        go_ret
        exact ⟨ret_bool Hr.out.symm, (by repeat (first | (with_reducible refine hd ?_) | (with_reducible exact Below.refl _ _) | (with_reducible assumption) | (with_reducible refine Below.alloc ?_ (by first | (simp; done) | (simp; omega) | omega) _) | (with_reducible refine Below.setCell ?_ (by first | (simp; done) | (simp; omega) | omega) _) | (with_reducible refine Below.drew ?_) | (with_reducible refine Below.drewN ?_ _) | (with_reducible refine Below.step ?_ (by with_reducible assumption))))⟩
    · have : k = rs.length := by omega
      subst this
      have Hr : Hid (rs.all okRec = true) := all_take_yes (fun j h2 => hall.out j h2 h2)
      go_wp2
      have hx0 := hB.out
      go_ret
      exact ⟨ret_bool (by unfold smallB; rw [Hr.out]; simp), (by repeat (first | (with_reducible refine hd ?_) | (with_reducible exact Below.refl _ _) | (with_reducible assumption) | (with_reducible refine Below.alloc ?_ (by first | (simp; done) | (simp; omega) | omega) _) | (with_reducible refine Below.setCell ?_ (by first | (simp; done) | (simp; omega) | omega) _) | (with_reducible refine Below.drew ?_) | (with_reducible refine Below.drewN ?_ _) | (with_reducible refine Below.step ?_ (by with_reducible assumption))))⟩
end Go.Proofs.YtaamjpeehejafaaDoor
