/- Contracts: State.Take, refused and taken. -/
import Derived.Test.YtaamjpeehejafaaDoorSaga5
set_option linter.unusedSimpArgs false
set_option linter.unusedVariables false
namespace Go.Proofs.YtaamjpeehejafaaDoor
open Go Go.RowKit

def St.zero : St := ⟨0, 0, Plan.none, [], []⟩
theorem RSt.zero (w : World) : RSt w (.slice none 0 0) (.slice none 0 0) (.slice none 0 0) (.slice none 0 0) (.slice none 0 0) (.slice none 0 0) St.zero :=
  ⟨⟨Sl.nil w, Sl.nil w, Sl.nil w, Sl.nil w⟩, Sl.nil w, Sl.nil w⟩
/-- the state behind a record that is taken -/
def St.step (s : St) (r : Rec) : St :=
  if r.kind = 1 then ⟨s.number + 1, 1, r.plan, [], []⟩ else
  if r.kind = 2 then { s with opn := s.opn ++ [r.step] } else
  if r.kind = 3 then { s with opn := without s.opn r.step, done := s.done ++ [r.step] } else
  if r.kind = 4 ∨ r.kind = 5 then { s with phase := 2 } else
  if r.kind = 6 then { s with opn := without s.opn r.step, done := without s.done r.step } else
  if r.kind = 7 then { s with phase := 3 } else { s with phase := if s.phase = 3 then 4 else 5 }
def St.take (s : St) (r : Rec) : St × Int :=
  if r.formed = false then (St.zero, 12) else if when r.kind s.phase = false then (St.zero, 70) else if s.ask r = 0 then (s.step r, 0) else (St.zero, s.ask r)

/-- A state whose rows lie at or above a block. -/
structure RowSt (w : World) (base : Nat) (u1 u2 u3 u4 u5 u6 : Value) (s : St) : Prop where
  plan : OPlan w base u1 u2 u3 u4 s.plan
  opn : w.ownsRow base 3 1 u5 s.opn.length (ints s.opn)
  done : w.ownsRow base 3 1 u6 s.done.length (ints s.done)
theorem own_nil (w : World) (base e size : Nat) : w.ownsRow base e size (.slice none 0 0) 0 [] := ⟨by simp, .inl ⟨rfl, rfl⟩⟩
theorem RowSt.zero (w : World) (base : Nat) : RowSt w base (.slice none 0 0) (.slice none 0 0) (.slice none 0 0) (.slice none 0 0) (.slice none 0 0) (.slice none 0 0) St.zero :=
  ⟨⟨own_nil _ _ _ _, own_nil _ _ _ _, own_nil _ _ _ _, own_nil _ _ _ _⟩, own_nil _ _ _ _, own_nil _ _ _ _⟩
theorem RowSt.reads {w : World} {base : Nat} {u1 u2 u3 u4 u5 u6 : Value} {s : St} (h : RowSt w base u1 u2 u3 u4 u5 u6 s) (hb : s.bd) : RSt w u1 u2 u3 u4 u5 u6 s :=
  ⟨h.plan.reads hb.plan, Sl.of_own h.opn (by have := hb.opn; omega), Sl.of_own h.done (by have := hb.done; omega)⟩
theorem RowSt.below {w w' : World} {base : Nat} {u1 u2 u3 u4 u5 u6 : Value} {s : St} (h : RowSt w base u1 u2 u3 u4 u5 u6 s) (hb : Below w.heap.size w w') : RowSt w' base u1 u2 u3 u4 u5 u6 s := ⟨h.plan.below hb, own_below h.opn hb, own_below h.done hb⟩
theorem RowSt.kept {w w' : World} {g base : Nat} {u1 u2 u3 u4 u5 u6 : Value} {s : St} (h : RowSt w base u1 u2 u3 u4 u5 u6 s) (hg : w.grownBy w' (some g)) (hlt : g < base) : RowSt w' base u1 u2 u3 u4 u5 u6 s := ⟨h.plan.kept hg hlt, own_kept h.opn hg hlt, own_kept h.done hg hlt⟩
theorem RowSt.mono {w : World} {base base' : Nat} {u1 u2 u3 u4 u5 u6 : Value} {s : St} (h : RowSt w base u1 u2 u3 u4 u5 u6 s) (hb : base' ≤ base) : RowSt w base' u1 u2 u3 u4 u5 u6 s := ⟨h.plan.mono hb, own_mono h.opn hb, own_mono h.done hb⟩
theorem RowSt.slices {w : World} {base : Nat} {u1 u2 u3 u4 u5 u6 : Value} {s : St} (h : RowSt w base u1 u2 u3 u4 u5 u6 s) : ∃ A1 c1 A2 c2 A3 c3 A4 c4 A5 c5 A6 c6, u1 = .slice A1 s.plan.fr.length c1 ∧ u2 = .slice A2 s.plan.to.length c2 ∧ u3 = .slice A3 s.plan.steps.length c3 ∧ u4 = .slice A4 s.plan.before.length c4 ∧ u5 = .slice A5 s.opn.length c5 ∧ u6 = .slice A6 s.done.length c6 := by
  obtain ⟨A1, c1, A2, c2, A3, c3, A4, c4, h1, h2, h3, h4⟩ := h.plan.slices
  obtain ⟨A5, c5, h5⟩ := own_slice h.opn
  obtain ⟨A6, c6, h6⟩ := own_slice h.done
  exact ⟨A1, c1, A2, c2, A3, c3, A4, c4, A5, c5, A6, c6, h1, h2, h3, h4, h5, h6⟩
def TakePost (w : World) (s : St) (er : Int) (e : Ending) (w' : World) : Prop :=
  ∃ u1 u2 u3 u4 u5 u6, e = .returned (.tuple #[.agg #[.int .i64 s.number, .int .i64 s.phase, u1, u2, u3, u4, u5, u6], .int .i64 er]) ∧ RowSt w' w.heap.size u1 u2 u3 u4 u5 u6 s ∧ Below w.heap.size w w'

theorem bgt3 {w w1 : World} {o o2 o3 : Obj} (h : Below (((w.alloc o).alloc o2).alloc o3).heap.size (((w.alloc o).alloc o2).alloc o3) w1) : w.heap.size + 1 + 1 < w1.heap.size := by
  have := h.size; simp at this; omega
set_option maxRecDepth 100000 in
set_option maxHeartbeats 1000000 in
theorem take_form (v1 v2 v3 v4 v5 v6 r1 r2 r3 r4 : Value) (s : St) (r : Rec) (w : World) (hr : RPlan w r1 r2 r3 r4 r.plan) (hf : r.formed = false) :
    Calls Tryd.prog 8 #[.agg #[.int .i64 s.number, .int .i64 s.phase, v1, v2, v3, v4, v5, v6], .agg #[.int .i64 r.kind, .int .i64 r.step, r1, r2, r3, r4]] w (TakePost w St.zero 12) := by
  have HR := hd hr
  have HF : Hid (Rec.formed ⟨r.kind, r.step, r.plan⟩ = false) := hf
  clear hr hf
  go_enter Tryd.func8, Tryd.ntmps8
  go_wp2_with (first
    | (go_at_call 23; (with_reducible refine (formed_c _ _ _ _ _ _ r.plan _ (HR.out.below (by repeat (first | (with_reducible refine hd ?_) | (with_reducible exact Below.refl _ _) | (with_reducible assumption) | (with_reducible refine Below.alloc ?_ (by first | (simp; done) | (simp; omega) | omega) _) | (with_reducible refine Below.setCell ?_ (by first | (simp; done) | (simp; omega) | omega) _) | (with_reducible refine Below.drew ?_) | (with_reducible refine Below.drewN ?_ _) | (with_reducible refine Below.step ?_ (by with_reducible assumption)))))).mono ?_); rintro e w1 ⟨rfl, hb1⟩; rw [HF.out]; obtain ⟨hc1, hf1⟩ := bcell hb1; have hz1 := bgt3 hb1; have HB1 := hd hb1; clear hb1)
    | (go_at_call 24; (with_reducible refine (when_c _ _ _).mono ?_); rintro e w2 ⟨rfl, rfl⟩; rw [HW.out])
    | (go_at_call 25; have hx1 := HB1.out; (with_reducible refine (HA.out _ (HS.out.below (by repeat (first | (with_reducible refine hd ?_) | (with_reducible exact Below.refl _ _) | (with_reducible assumption) | (with_reducible refine Below.alloc ?_ (by first | (simp; done) | (simp; omega) | omega) _) | (with_reducible refine Below.setCell ?_ (by first | (simp; done) | (simp; omega) | omega) _) | (with_reducible refine Below.drew ?_) | (with_reducible refine Below.drewN ?_ _) | (with_reducible refine Below.step ?_ (by with_reducible assumption))))) (HR.out.below (by repeat (first | (with_reducible refine hd ?_) | (with_reducible exact Below.refl _ _) | (with_reducible assumption) | (with_reducible refine Below.alloc ?_ (by first | (simp; done) | (simp; omega) | omega) _) | (with_reducible refine Below.setCell ?_ (by first | (simp; done) | (simp; omega) | omega) _) | (with_reducible refine Below.drew ?_) | (with_reducible refine Below.drewN ?_ _) | (with_reducible refine Below.step ?_ (by with_reducible assumption))))) (HT.out.below (B := w.heap.size) (by repeat (first | (with_reducible refine hd ?_) | (with_reducible exact Below.refl _ _) | (with_reducible assumption) | (with_reducible refine Below.alloc ?_ (by first | (simp; done) | (simp; omega) | omega) _) | (with_reducible refine Below.setCell ?_ (by first | (simp; done) | (simp; omega) | omega) _) | (with_reducible refine Below.drew ?_) | (with_reducible refine Below.drewN ?_ _) | (with_reducible refine Below.step ?_ (by with_reducible assumption)))) HT.out.pos)).mono ?_); rintro e w2 ⟨rfl, hb2⟩; obtain ⟨hc2, hf2⟩ := bcell hb2; have hz2 := Nat.lt_of_lt_of_le hz1 (bge hb2); have HB2 := hd hb2; clear hb2 hx1))
  have hx1 := HB1.out
  exact bodyPost_ret (v := .tuple #[.agg #[.int .i64 0, .int .i64 0, .slice none 0 0, .slice none 0 0, .slice none 0 0, .slice none 0 0, .slice none 0 0, .slice none 0 0], .int .i64 12]) (by simp [results, Tryd.results8, go_sem, hc1, hz1]) rfl ⟨_, _, _, _, _, _, rfl, RowSt.zero _ _, (by repeat (first | (with_reducible refine hd ?_) | (with_reducible exact Below.refl _ _) | (with_reducible assumption) | (with_reducible refine Below.alloc ?_ (by first | (simp; done) | (simp; omega) | omega) _) | (with_reducible refine Below.setCell ?_ (by first | (simp; done) | (simp; omega) | omega) _) | (with_reducible refine Below.drew ?_) | (with_reducible refine Below.drewN ?_ _) | (with_reducible refine Below.step ?_ (by with_reducible assumption))))⟩
set_option maxRecDepth 100000 in
set_option maxHeartbeats 1000000 in
theorem take_when (v1 v2 v3 v4 v5 v6 r1 r2 r3 r4 : Value) (s : St) (r : Rec) (w : World) (hr : RPlan w r1 r2 r3 r4 r.plan) (hf : r.formed = true) (hw : when r.kind s.phase = false) :
    Calls Tryd.prog 8 #[.agg #[.int .i64 s.number, .int .i64 s.phase, v1, v2, v3, v4, v5, v6], .agg #[.int .i64 r.kind, .int .i64 r.step, r1, r2, r3, r4]] w (TakePost w St.zero 70) := by
  have HR := hd hr
  have HF : Hid (Rec.formed ⟨r.kind, r.step, r.plan⟩ = true) := hf
  have HW := hd hw
  clear hr hf hw
  go_enter Tryd.func8, Tryd.ntmps8
  go_wp2_with (first
    | (go_at_call 23; (with_reducible refine (formed_c _ _ _ _ _ _ r.plan _ (HR.out.below (by repeat (first | (with_reducible refine hd ?_) | (with_reducible exact Below.refl _ _) | (with_reducible assumption) | (with_reducible refine Below.alloc ?_ (by first | (simp; done) | (simp; omega) | omega) _) | (with_reducible refine Below.setCell ?_ (by first | (simp; done) | (simp; omega) | omega) _) | (with_reducible refine Below.drew ?_) | (with_reducible refine Below.drewN ?_ _) | (with_reducible refine Below.step ?_ (by with_reducible assumption)))))).mono ?_); rintro e w1 ⟨rfl, hb1⟩; rw [HF.out]; obtain ⟨hc1, hf1⟩ := bcell hb1; have hz1 := bgt3 hb1; have HB1 := hd hb1; clear hb1)
    | (go_at_call 24; (with_reducible refine (when_c _ _ _).mono ?_); rintro e w2 ⟨rfl, rfl⟩; rw [HW.out])
    | (go_at_call 25; have hx1 := HB1.out; (with_reducible refine (HA.out _ (HS.out.below (by repeat (first | (with_reducible refine hd ?_) | (with_reducible exact Below.refl _ _) | (with_reducible assumption) | (with_reducible refine Below.alloc ?_ (by first | (simp; done) | (simp; omega) | omega) _) | (with_reducible refine Below.setCell ?_ (by first | (simp; done) | (simp; omega) | omega) _) | (with_reducible refine Below.drew ?_) | (with_reducible refine Below.drewN ?_ _) | (with_reducible refine Below.step ?_ (by with_reducible assumption))))) (HR.out.below (by repeat (first | (with_reducible refine hd ?_) | (with_reducible exact Below.refl _ _) | (with_reducible assumption) | (with_reducible refine Below.alloc ?_ (by first | (simp; done) | (simp; omega) | omega) _) | (with_reducible refine Below.setCell ?_ (by first | (simp; done) | (simp; omega) | omega) _) | (with_reducible refine Below.drew ?_) | (with_reducible refine Below.drewN ?_ _) | (with_reducible refine Below.step ?_ (by with_reducible assumption))))) (HT.out.below (B := w.heap.size) (by repeat (first | (with_reducible refine hd ?_) | (with_reducible exact Below.refl _ _) | (with_reducible assumption) | (with_reducible refine Below.alloc ?_ (by first | (simp; done) | (simp; omega) | omega) _) | (with_reducible refine Below.setCell ?_ (by first | (simp; done) | (simp; omega) | omega) _) | (with_reducible refine Below.drew ?_) | (with_reducible refine Below.drewN ?_ _) | (with_reducible refine Below.step ?_ (by with_reducible assumption)))) HT.out.pos)).mono ?_); rintro e w2 ⟨rfl, hb2⟩; obtain ⟨hc2, hf2⟩ := bcell hb2; have hz2 := Nat.lt_of_lt_of_le hz1 (bge hb2); have HB2 := hd hb2; clear hb2 hx1))
  have hx1 := HB1.out
  exact bodyPost_ret (v := .tuple #[.agg #[.int .i64 0, .int .i64 0, .slice none 0 0, .slice none 0 0, .slice none 0 0, .slice none 0 0, .slice none 0 0, .slice none 0 0], .int .i64 70]) (by simp [results, Tryd.results8, go_sem, hc1, hz1]) rfl ⟨_, _, _, _, _, _, rfl, RowSt.zero _ _, (by repeat (first | (with_reducible refine hd ?_) | (with_reducible exact Below.refl _ _) | (with_reducible assumption) | (with_reducible refine Below.alloc ?_ (by first | (simp; done) | (simp; omega) | omega) _) | (with_reducible refine Below.setCell ?_ (by first | (simp; done) | (simp; omega) | omega) _) | (with_reducible refine Below.drew ?_) | (with_reducible refine Below.drewN ?_ _) | (with_reducible refine Below.step ?_ (by with_reducible assumption))))⟩

/-- ask, whatever the kind -/
theorem ask_c (n : Int) (v1 v2 v3 v4 v5 v6 r1 r2 r3 r4 : Value) (s : St) (r : Rec) (w : World) (hs : RSt w v1 v2 v3 v4 v5 v6 s) (hr : RPlan w r1 r2 r3 r4 r.plan) (hT : Tab w) (hb : r.plan.bd) (hk : 1 ≤ r.kind ∧ r.kind ≤ 8) :
    Calls Tryd.prog 25 #[.agg #[.int .i64 n, .int .i64 s.phase, v1, v2, v3, v4, v5, v6], .agg #[.int .i64 r.kind, .int .i64 r.step, r1, r2, r3, r4]] w (AskPost w (s.ask r)) := by
  unfold St.ask
  obtain h | h | h | h | h | h | h | h : r.kind = 1 ∨ r.kind = 2 ∨ r.kind = 3 ∨ r.kind = 4 ∨ r.kind = 5 ∨ r.kind = 6 ∨ r.kind = 7 ∨ r.kind = 8 := by omega
  all_goals rw [h]; simp only [reduceIte, Int.reduceEq, or_true, true_or, or_self]
  · exact ask1_c n v1 v2 v3 v4 v5 v6 r1 r2 r3 r4 s r w hs hr hb hT
  · exact ask2_c n v1 v2 v3 v4 v5 v6 r1 r2 r3 r4 s r w hs hr
  · exact ask3_c n v1 v2 v3 v4 v5 v6 r1 r2 r3 r4 s r w hs hr
  · exact ask4_c n v1 v2 v3 v4 v5 v6 r1 r2 r3 r4 s r w hs hr
  · exact ask5_c n v1 v2 v3 v4 v5 v6 r1 r2 r3 r4 s r w hs hr
  · exact ask6_c n v1 v2 v3 v4 v5 v6 r1 r2 r3 r4 s r w hs hr
  · exact ask7_c n v1 v2 v3 v4 v5 v6 r1 r2 r3 r4 s r w hs hr
  · exact ask8_c n v1 v2 v3 v4 v5 v6 r1 r2 r3 r4 s r w hs hr

theorem formed_kind {r : Rec} (h : r.formed = true) : 1 ≤ r.kind ∧ r.kind ≤ 8 := by
  simp only [Rec.formed, Bool.and_eq_true, decide_eq_true_eq] at h
  omega
set_option maxRecDepth 100000 in
set_option maxHeartbeats 1000000 in
theorem take_err (v1 v2 v3 v4 v5 v6 r1 r2 r3 r4 : Value) (s : St) (r : Rec) (w : World) (hs : RSt w v1 v2 v3 v4 v5 v6 s) (hr : RPlan w r1 r2 r3 r4 r.plan) (hT : Tab w) (hb : r.plan.bd) (hf : r.formed = true) (hw : when r.kind s.phase = true) (ha : s.ask r ≠ 0) :
    Calls Tryd.prog 8 #[.agg #[.int .i64 s.number, .int .i64 s.phase, v1, v2, v3, v4, v5, v6], .agg #[.int .i64 r.kind, .int .i64 r.step, r1, r2, r3, r4]] w (TakePost w St.zero (s.ask r)) := by
  have HA := hd (fun w' hs hr hT => ask_c s.number v1 v2 v3 v4 v5 v6 r1 r2 r3 r4 s r w' hs hr hT hb (formed_kind hf))
  have HR := hd hr; have HS := hd hs; have HT := hd hT
  have HF : Hid (Rec.formed ⟨r.kind, r.step, r.plan⟩ = true) := hf
  have HW := hd hw
  have ha2 : (s.ask r == 0) = false := by simpa using ha
  have ha3 : (s.ask r != 0) = true := by simpa using ha
  clear hr hf hw hs hT hb ha
  go_enter Tryd.func8, Tryd.ntmps8
  go_wp2_with (first
    | (go_at_call 23; (with_reducible refine (formed_c _ _ _ _ _ _ r.plan _ (HR.out.below (by repeat (first | (with_reducible refine hd ?_) | (with_reducible exact Below.refl _ _) | (with_reducible assumption) | (with_reducible refine Below.alloc ?_ (by first | (simp; done) | (simp; omega) | omega) _) | (with_reducible refine Below.setCell ?_ (by first | (simp; done) | (simp; omega) | omega) _) | (with_reducible refine Below.drew ?_) | (with_reducible refine Below.drewN ?_ _) | (with_reducible refine Below.step ?_ (by with_reducible assumption)))))).mono ?_); rintro e w1 ⟨rfl, hb1⟩; rw [HF.out]; obtain ⟨hc1, hf1⟩ := bcell hb1; have hz1 := bgt3 hb1; have HB1 := hd hb1; clear hb1)
    | (go_at_call 24; (with_reducible refine (when_c _ _ _).mono ?_); rintro e w2 ⟨rfl, rfl⟩; rw [HW.out])
    | (go_at_call 25; have hx1 := HB1.out; (with_reducible refine (HA.out _ (HS.out.below (by repeat (first | (with_reducible refine hd ?_) | (with_reducible exact Below.refl _ _) | (with_reducible assumption) | (with_reducible refine Below.alloc ?_ (by first | (simp; done) | (simp; omega) | omega) _) | (with_reducible refine Below.setCell ?_ (by first | (simp; done) | (simp; omega) | omega) _) | (with_reducible refine Below.drew ?_) | (with_reducible refine Below.drewN ?_ _) | (with_reducible refine Below.step ?_ (by with_reducible assumption))))) (HR.out.below (by repeat (first | (with_reducible refine hd ?_) | (with_reducible exact Below.refl _ _) | (with_reducible assumption) | (with_reducible refine Below.alloc ?_ (by first | (simp; done) | (simp; omega) | omega) _) | (with_reducible refine Below.setCell ?_ (by first | (simp; done) | (simp; omega) | omega) _) | (with_reducible refine Below.drew ?_) | (with_reducible refine Below.drewN ?_ _) | (with_reducible refine Below.step ?_ (by with_reducible assumption))))) (HT.out.below (B := w.heap.size) (by repeat (first | (with_reducible refine hd ?_) | (with_reducible exact Below.refl _ _) | (with_reducible assumption) | (with_reducible refine Below.alloc ?_ (by first | (simp; done) | (simp; omega) | omega) _) | (with_reducible refine Below.setCell ?_ (by first | (simp; done) | (simp; omega) | omega) _) | (with_reducible refine Below.drew ?_) | (with_reducible refine Below.drewN ?_ _) | (with_reducible refine Below.step ?_ (by with_reducible assumption)))) HT.out.pos)).mono ?_); rintro e w2 ⟨rfl, hb2⟩; obtain ⟨hc2, hf2⟩ := bcell hb2; have hz2 := Nat.lt_of_lt_of_le hz1 (bge hb2); have HB2 := hd hb2; clear hb2 hx1))
  have hx1 := HB1.out
  have hx2 := HB2.out
  exact bodyPost_ret (v := .tuple #[.agg #[.int .i64 0, .int .i64 0, .slice none 0 0, .slice none 0 0, .slice none 0 0, .slice none 0 0, .slice none 0 0, .slice none 0 0], .int .i64 (s.ask r)]) (by simp [results, Tryd.results8, go_sem, hc1, hz1, hc2, hz2]) rfl ⟨_, _, _, _, _, _, rfl, RowSt.zero _ _, (by repeat (first | (with_reducible refine hd ?_) | (with_reducible exact Below.refl _ _) | (with_reducible assumption) | (with_reducible refine Below.alloc ?_ (by first | (simp; done) | (simp; omega) | omega) _) | (with_reducible refine Below.setCell ?_ (by first | (simp; done) | (simp; omega) | omega) _) | (with_reducible refine Below.drew ?_) | (with_reducible refine Below.drewN ?_ _) | (with_reducible refine Below.step ?_ (by with_reducible assumption))))⟩
end Go.Proofs.YtaamjpeehejafaaDoor
