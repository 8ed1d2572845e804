/- The rows' common parts: the table out of the listed variable; records and plans opened. -/
import Derived.Test.YtaamjpeehejafaaDoorRows
import Derived.Test.YtaamjpeehejafaaDoorOpn
import Derived.Test.YtaamjpeehejafaaDoorRef3
import Derived.ProofKit
import Derived.LaidMore
import Derived.OpenShut
import Derived.Stop.Joined
set_option linter.unusedSimpArgs false
set_option linter.unusedVariables false
namespace Go.Proofs.YtaamjpeehejafaaDoor
open Go Go.RowKit Go.ChangeShapes Go.WideShapes

theorem own : ownKnob Tryd.prog.godebug = none := by kernel_rfl
theorem gTab : Tryd.prog.globalNamed "math/bits.deBruijn64tab" = some 0 := by kernel_rfl
theorem tTab : (Tryd.prog.globals[0]?).map (·.type) = some 145 := by kernel_rfl
theorem laidOut : laidOutB Tryd.prog = true := by kernel_rfl
def laid1 : List (String × DataW Unit) := [("math/bits.deBruijn64tab", Rows.laid_math_bits_deBruijn64tab)]
theorem door_met (os : Os) (args : Array Value) : laidMetH Tryd.prog laid1 ((World.doorLaid Tryd.prog 400 os).forCall (fun _ _ => 0) ⟨#[], args, []⟩).memory := by
  rw [MakeChecks.laidMetH_plain _ _ _ (by kernel_rfl)]
  exact laidMet_of_run' 8 (by kernel_rfl) (by kernel_rfl)

theorem tab_lits : ∀ j, j < 64 → ∃ n : Int, (Lib.deBruijn64tab.getD j 0 : Int) = n ∧ (match (Rows.laid_math_bits_deBruijn64tab : DataW Unit) with | .agg l => l[j]? | _ => none) = some (.lit (.int .u8 n)) := by
  intro j hj
  have key : ((List.range 64).all fun j => match (match (Rows.laid_math_bits_deBruijn64tab : DataW Unit) with | .agg l => l[j]? | _ => none) with | some (.lit (.int .u8 n)) => n == (Lib.deBruijn64tab.getD j 0 : Int) | _ => false) = true := by kernel_rfl
  have := List.all_eq_true.1 key j (List.mem_range.2 hj)
  split at this
  · rename_i n he
    exact ⟨n, by simpa using (beq_iff_eq.1 this).symm, he⟩
  · cases this
theorem of_laid {W : World} (h : laidMetH Tryd.prog laid1 W) : Tab W := by
  rw [MakeChecks.laidMetH_plain _ _ _ (by kernel_rfl)] at h
  obtain ⟨ps, ⟨g0, t0, cs0, f0, p0, q0, hg0, ht0, hv0, hd0, _, _⟩, _, _⟩ := h
  obtain rfl := Option.some.inj (gTab.symm.trans hg0)
  obtain rfl := Option.some.inj (tTab.symm.trans ht0)
  obtain ⟨xs, m1, rfl, hx1, hlen, hn3, hel⟩ := DataW.trod_array Tryd.underlying145 hd0
  have c5 : Tryd.prog.cellsOf 5 = 1 := by kernel_rfl
  have c145 : Tryd.prog.cellsOf 145 = 64 := by kernel_rfl
  injection hx1 with hx1 _
  refine ⟨fun j hj => ?_⟩
  have hj1 := hel j hj
  rw [c5, Nat.mul_one] at hj1
  have hjx : j < xs.length := by omega
  rw [List.getElem?_eq_getElem hjx] at hj1
  obtain ⟨k, e1, e2, _⟩ := DataW.trod_int Tryd.underlying5 hj1
  obtain ⟨n, hn, hl⟩ := tab_lits j hj
  have hl2 : (xs.map (·.1))[j]? = some (.lit (.int .u8 n)) := by
    rw [← hl]
    have : (Rows.laid_math_bits_deBruijn64tab : DataW Unit) = .agg (xs.map (·.1)) := hx1
    rw [this]
  rw [List.getElem?_map, List.getElem?_eq_getElem hjx] at hl2
  simp only [Option.map_some, Option.some.injEq] at hl2
  rw [e2] at hl2
  simp only [DataW.lit.injEq, Lit.int.injEq, true_and] at hl2
  clear hl hx1 hel hd0
  have hcell := World.var?_cell hg0 hv0 j
  obtain ⟨l0⟩ := cs0
  have hcl : l0.length = 64 := by rw [c145] at hlen; simpa using hlen
  have h1 : (l0.drop j).take 1 = [Value.int .u8 k] := e1
  have h2 : l0[j]? = some (.int .u8 k) := by
    have := congrArg (fun l => l[0]?) h1
    simpa [List.getElem?_take, List.getElem?_drop] using this
  rw [hn, ← hl2]
  simpa [h2] using hcell

theorem list2 {α : Type} {l : List α} (h : l.length = 2) : ∃ a b, l = [a, b] := by
  match l, h with
  | [a, b], _ => exact ⟨a, b, rfl⟩
theorem list4 {α : Type} {l : List α} (h : l.length = 4) : ∃ a b c d, l = [a, b, c, d] := by
  match l, h with
  | [a, b, c, d], _ => exact ⟨a, b, c, d, rfl⟩
theorem list6 {α : Type} {l : List α} (h : l.length = 6) : ∃ a b c d e f, l = [a, b, c, d, e, f] := by
  match l, h with
  | [a, b, c, d, e, f], _ => exact ⟨a, b, c, d, e, f, rfl⟩
section
variable {H : Type} {enc : TypeId × Value → H} {w : World} {sp : Nat → Bool} {cs : List Value} {d : DataW H}
theorem open_ints {v : Value} (h : Opn enc Tryd.prog w sp 25 [v] d) : ∃ xs : List Int, Sl w v xs.length (ints xs) := by
  obtain ⟨xs, h1, _⟩ := Opn.sl (α := Int) (size := 1) (fun x => [.int .i64 x]) (fun _ => True) Tryd.underlying25 (by kernel_rfl) (by decide) (by decide +kernel) (fun _ => rfl) (fun cs' d' h => by
    obtain ⟨n, h1, _⟩ := h.int Tryd.underlying3
    exact ⟨n, h1, trivial⟩) h
  refine ⟨xs, ?_⟩
  have : ∀ xs : List Int, xs.flatMap (fun x => [Value.int .i64 x]) = ints xs := fun xs => by unfold ints; induction xs <;> simp_all
  rwa [this xs] at h1
theorem open_steps {v : Value} (h : Opn enc Tryd.prog w sp 26 [v] d) : ∃ xs : List (Int × Int), Sl w v xs.length (pairs xs) := by
  obtain ⟨xs, h1, _⟩ := Opn.sl (α := Int × Int) (size := 2) (fun x => [.int .i64 x.1, .int .i64 x.2]) (fun _ => True) Tryd.underlying26 (by kernel_rfl) (by decide) (by decide +kernel) (fun _ => rfl) (fun cs' d' h => by
    obtain ⟨hl, ds, _, _, hf⟩ := h.struct Tryd.underlying69
    have c : Tryd.prog.cellsOf 69 = 2 := by kernel_rfl
    have ci : Tryd.prog.cellsOf 3 = 1 := by kernel_rfl
    rw [c] at hl
    obtain ⟨a, b, rfl⟩ := list2 hl
    · skip
      obtain ⟨_, _, h0⟩ := hf 0 _ rfl
      obtain ⟨_, _, h1⟩ := hf 1 _ rfl
      simp only [List.getElem_toArray, List.getElem_cons_zero, List.getElem_cons_succ] at h0; rw [ci] at h0; simp only [List.drop_zero, List.drop_succ_cons, List.take_succ_cons, List.take_zero] at h0; simp only [List.getElem_toArray, List.getElem_cons_zero, List.getElem_cons_succ] at h1; rw [ci] at h1; simp only [List.drop_zero, List.drop_succ_cons, List.take_succ_cons, List.take_zero] at h1
      obtain ⟨n, e1, _⟩ := h0.int Tryd.underlying3
      obtain ⟨m, e2, _⟩ := h1.int Tryd.underlying3
      simp at e1 e2
      exact ⟨(n, m), by rw [e1, e2], trivial⟩) h
  exact ⟨xs, h1⟩
theorem open_before {v : Value} (h : Opn enc Tryd.prog w sp 27 [v] d) : ∃ xs : List (Int × Int), Sl w v xs.length (pairs xs) := by
  obtain ⟨xs, h1, _⟩ := Opn.sl (α := Int × Int) (size := 2) (fun x => [.int .i64 x.1, .int .i64 x.2]) (fun _ => True) Tryd.underlying27 (by kernel_rfl) (by decide) (by decide +kernel) (fun _ => rfl) (fun cs' d' h => by
    obtain ⟨hl, ds, _, _, hf⟩ := h.array Tryd.underlying70
    have c : Tryd.prog.cellsOf 70 = 2 := by kernel_rfl
    have ci : Tryd.prog.cellsOf 3 = 1 := by kernel_rfl
    rw [c] at hl
    obtain ⟨a, b, rfl⟩ := list2 hl
    · skip
      obtain ⟨_, _, h0⟩ := hf 0 (by decide)
      obtain ⟨_, _, h1⟩ := hf 1 (by decide)
      simp only [ci] at h0 h1
      obtain ⟨n, e1, _⟩ := h0.int Tryd.underlying3
      obtain ⟨m, e2, _⟩ := h1.int Tryd.underlying3
      simp at e1 e2
      exact ⟨(n, m), by rw [e1, e2], trivial⟩) h
  exact ⟨xs, h1⟩
theorem open_plan (h : Opn enc Tryd.prog w sp 29 cs d) : ∃ v1 v2 v3 v4 p, cs = [v1, v2, v3, v4] ∧ RPlan w v1 v2 v3 v4 p := by
  obtain ⟨hl, ds, _, _, hf⟩ := h.struct Tryd.underlying29
  have c : Tryd.prog.cellsOf 29 = 4 := by kernel_rfl
  have c1 : Tryd.prog.cellsOf 25 = 1 := by kernel_rfl
  have c2 : Tryd.prog.cellsOf 26 = 1 := by kernel_rfl
  have c3 : Tryd.prog.cellsOf 27 = 1 := by kernel_rfl
  rw [c] at hl
  obtain ⟨v1, v2, v3, v4, rfl⟩ := list4 hl
  · skip
    obtain ⟨_, _, h0⟩ := hf 0 _ rfl
    obtain ⟨_, _, h1⟩ := hf 1 _ rfl
    obtain ⟨_, _, h2⟩ := hf 2 _ rfl
    obtain ⟨_, _, h3⟩ := hf 3 _ rfl
    simp only [List.getElem_toArray, List.getElem_cons_zero, List.getElem_cons_succ] at h0; rw [c1] at h0; simp only [List.drop_zero, List.drop_succ_cons, List.take_succ_cons, List.take_zero] at h0; simp only [List.getElem_toArray, List.getElem_cons_zero, List.getElem_cons_succ] at h1; rw [c1] at h1; simp only [List.drop_zero, List.drop_succ_cons, List.take_succ_cons, List.take_zero] at h1; simp only [List.getElem_toArray, List.getElem_cons_zero, List.getElem_cons_succ] at h2; rw [c2] at h2; simp only [List.drop_zero, List.drop_succ_cons, List.take_succ_cons, List.take_zero] at h2; simp only [List.getElem_toArray, List.getElem_cons_zero, List.getElem_cons_succ] at h3; rw [c3] at h3; simp only [List.drop_zero, List.drop_succ_cons, List.take_succ_cons, List.take_zero] at h3
    obtain ⟨x1, q1⟩ := open_ints h0
    obtain ⟨x2, q2⟩ := open_ints h1
    obtain ⟨x3, q3⟩ := open_steps h2
    obtain ⟨x4, q4⟩ := open_before h3
    exact ⟨v1, v2, v3, v4, ⟨x1, x2, x3, x4⟩, rfl, ⟨q1, q2, q3, q4⟩⟩
def recF (x : Rec × PV) : List Value := [.int .i64 x.1.kind, .int .i64 x.1.step, x.2.1, x.2.2.1, x.2.2.2.1, x.2.2.2.2]
theorem recF_cells : ∀ xs : List (Rec × PV), xs.flatMap recF = recCells (xs.map (·.1)) (xs.map (·.2))
  | [] => rfl
  | x :: r => by
    simp only [List.flatMap_cons, List.map_cons, recCells]
    rw [recF_cells r]; rfl
theorem open_rec (h : Opn enc Tryd.prog w sp 33 cs d) : ∃ x : Rec × PV, cs = recF x ∧ RPlan w x.2.1 x.2.2.1 x.2.2.2.1 x.2.2.2.2 x.1.plan := by
  obtain ⟨hl, ds, _, _, hf⟩ := h.struct Tryd.underlying33
  have c : Tryd.prog.cellsOf 33 = 6 := by kernel_rfl
  have c1 : Tryd.prog.cellsOf 3 = 1 := by kernel_rfl
  have c2 : Tryd.prog.cellsOf 29 = 4 := by kernel_rfl
  rw [c] at hl
  obtain ⟨v1, v2, v3, v4, v5, v6, rfl⟩ := list6 hl
  · skip
    obtain ⟨_, _, h0⟩ := hf 0 _ rfl
    obtain ⟨_, _, h1⟩ := hf 1 _ rfl
    obtain ⟨_, _, h2⟩ := hf 2 _ rfl
    simp only [List.getElem_toArray, List.getElem_cons_zero, List.getElem_cons_succ] at h0; rw [c1] at h0; simp only [List.drop_zero, List.drop_succ_cons, List.take_succ_cons, List.take_zero] at h0; simp only [List.getElem_toArray, List.getElem_cons_zero, List.getElem_cons_succ] at h1; rw [c1] at h1; simp only [List.drop_zero, List.drop_succ_cons, List.take_succ_cons, List.take_zero] at h1; simp only [List.getElem_toArray, List.getElem_cons_zero, List.getElem_cons_succ] at h2; rw [c2] at h2; simp only [List.drop_zero, List.drop_succ_cons, List.take_succ_cons, List.take_zero] at h2
    obtain ⟨n, e1, _⟩ := h0.int Tryd.underlying3
    obtain ⟨m, e2, _⟩ := h1.int Tryd.underlying3
    obtain ⟨u1, u2, u3, u4, p, e3, hp⟩ := open_plan h2
    simp at e1 e2 e3
    obtain ⟨rfl, rfl, rfl, rfl⟩ := e3
    exact ⟨(⟨n, m, p⟩, v3, v4, v5, v6), by rw [e1, e2]; rfl, hp⟩
theorem open_recs {v : Value} (h : Opn enc Tryd.prog w sp 22 [v] d) : ∃ rs vs, RRecs w v rs vs := by
  obtain ⟨xs, h1, h2, _⟩ := Opn.sl (α := Rec × PV) (size := 6) recF (fun x => RPlan w x.2.1 x.2.2.1 x.2.2.2.1 x.2.2.2.2 x.1.plan) Tryd.underlying22 (by kernel_rfl) (by decide) (by decide +kernel) (fun _ => rfl) (fun cs' d' h => open_rec h) h
  refine ⟨xs.map (·.1), xs.map (·.2), by simp, by rw [recF_cells] at h1; simpa using h1, fun j a b => ?_⟩
  have := h2 (xs[j]'(by simpa using a)) (List.getElem_mem _)
  simpa using this
end
end Go.Proofs.YtaamjpeehejafaaDoor
