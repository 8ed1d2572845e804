/- Contracts: State.Take, taken: the kind 1. -/
import Derived.Test.YtaamjpeehejafaaDoorSaga12
set_option linter.unusedSimpArgs false
set_option linter.unusedVariables false
namespace Go.Proofs.YtaamjpeehejafaaDoor
open Go Go.RowKit

theorem Box.kept {w0 w w' : World} {k st n ph : Int} {r1 r2 r3 r4 u1 u2 u3 u4 u5 u6 : Value} (h : Box w0 k st r1 r2 r3 r4 n ph u1 u2 u3 u4 u5 u6 w) (hg : Below w.heap.size w w') : Box w0 k st r1 r2 r3 r4 n ph u1 u2 u3 u4 u5 u6 w' := h.later (grown_of_below hg none) (by simp)
def BegF (g : Nat) (n : Int) (r1 r2 r3 r4 : Value) (p : Plan) : Nat → Value → World → Prop
  | 0, v, _ => v = .pointer (some ⟨g, 0, none⟩)
  | 1, v, _ => v = .int .i64 n
  | 2, v, _ => v = .int .i64 (n + 1)
  | 3, v, _ => v = .pointer (some ⟨g + 1, 2, none⟩)
  | 4, v, _ => v = .agg #[r1, r2, r3, r4]
  | 5, v, w => ∃ y1 y2 y3 y4, v = .agg #[y1, y2, y3, y4] ∧ OPlan w (g + 3) y1 y2 y3 y4 p
  | 6, v, w => ∃ y1 y2 y3 y4, v = .agg #[.int .i64 (n + 1), .int .i64 1, y1, y2, y3, y4, .slice none 0 0, .slice none 0 0] ∧ OPlan w (g + 3) y1 y2 y3 y4 p
  | _, _, _ => True
theorem BegF.keep {g : Nat} {n : Int} {r1 r2 r3 r4 : Value} {p : Plan} (i : Nat) (v : Value) (w w' : World) (h : BegF g n r1 r2 r3 r4 p i v w) (hR : w.grownBy w' (some g)) : BegF g n r1 r2 r3 r4 p i v w' := by
  unfold BegF at h ⊢
  split at h
  all_goals first | exact h | trivial | (obtain ⟨y1, y2, y3, y4, h1, h2⟩ := h; exact ⟨y1, y2, y3, y4, h1, h2.kept hR (by omega)⟩)
def BegS (w0 : World) (st : Int) (r1 r2 r3 r4 : Value) (n ph : Int) (u1 u2 u3 u4 u5 u6 : Value) (p : Plan) (k : Nat) (w : World) : Prop :=
  if k ≤ 1 then Box w0 1 st r1 r2 r3 r4 n ph u1 u2 u3 u4 u5 u6 w else ∃ y1 y2 y3 y4, Box w0 1 st r1 r2 r3 r4 (n + 1) 1 y1 y2 y3 y4 (.slice none 0 0) (.slice none 0 0) w ∧ OPlan w (w0.heap.size + 3) y1 y2 y3 y4 p
theorem BegS.box {w0 w : World} {st : Int} {r1 r2 r3 r4 : Value} {n ph : Int} {u1 u2 u3 u4 u5 u6 : Value} {p : Plan} {k : Nat} (h : BegS w0 st r1 r2 r3 r4 n ph u1 u2 u3 u4 u5 u6 p k w) (hk : k ≤ 1) : Box w0 1 st r1 r2 r3 r4 n ph u1 u2 u3 u4 u5 u6 w := by
  unfold BegS at h; rw [if_pos hk] at h; exact h
theorem BegS.of {w0 w : World} {st : Int} {r1 r2 r3 r4 : Value} {n ph : Int} {u1 u2 u3 u4 u5 u6 : Value} {p : Plan} {k : Nat} (h : Box w0 1 st r1 r2 r3 r4 n ph u1 u2 u3 u4 u5 u6 w) (hk : k ≤ 1) : BegS w0 st r1 r2 r3 r4 n ph u1 u2 u3 u4 u5 u6 p k w := by
  unfold BegS; rw [if_pos hk]; exact h
theorem Box.put8 {w0 w : World} {k st n ph n' ph' : Int} {r1 r2 r3 r4 u1 u2 u3 u4 u5 u6 y1 y2 y3 y4 y5 y6 : Value} (h : Box w0 k st r1 r2 r3 r4 n ph u1 u2 u3 u4 u5 u6 w) :
    Box w0 k st r1 r2 r3 r4 n' ph' y1 y2 y3 y4 y5 y6 ((((((((w.setCell ⟨w0.heap.size, 0, none⟩ (.int .i64 n')).setCell ⟨w0.heap.size, 1, none⟩ (.int .i64 ph')).setCell ⟨w0.heap.size, 2, none⟩ y1).setCell ⟨w0.heap.size, 3, none⟩ y2).setCell ⟨w0.heap.size, 4, none⟩ y3).setCell ⟨w0.heap.size, 5, none⟩ y4).setCell ⟨w0.heap.size, 6, none⟩ y5).setCell ⟨w0.heap.size, 7, none⟩ y6) := by
  have hz := h.size
  have q := eight_grown w w0.heap.size (.int .i64 n') (.int .i64 ph') y1 y2 y3 y4 y5 y6
  refine ⟨Below.grown h.below q h.below.size (by intro k hk; injection hk with hk; omega), Nat.le_trans h.size q.size, eight_same w _ _ _ _ _ _ _ _ _ _ _ _ _ _ _ _ _ _ h.state, ?_, ?_⟩
  · rw [q.block _ (by omega) (by simp)]; exact h.rcd
  · rw [q.block _ (by omega) (by simp)]; exact h.out
theorem wrap_next (n : Int) (h : -1 ≤ n ∧ n ≤ 1099511627776) : wrap64 (n + 1) = n + 1 := by
  unfold wrap64
  omega
set_option maxRecDepth 100000 in
set_option maxHeartbeats 2000000 in
theorem take1 (v1 v2 v3 v4 v5 v6 r1 r2 r3 r4 : Value) (s : St) (st : Int) (p : Plan) (w : World) (hs : RSt w v1 v2 v3 v4 v5 v6 s) (hr : RPlan w r1 r2 r3 r4 p) (hT : Tab w) (hb : p.bd) (hbd : s.bd) (hf : Rec.formed ⟨1, st, p⟩ = true) (hw : when 1 s.phase = true) (ha : s.ask ⟨1, st, p⟩ = 0) (hbs : (s.step ⟨1, st, p⟩).bd) (hnum : -1 ≤ s.number ∧ s.number ≤ 1099511627776) :
    Calls Tryd.prog 8 #[.agg #[.int .i64 s.number, .int .i64 s.phase, v1, v2, v3, v4, v5, v6], .agg #[.int .i64 1, .int .i64 st, r1, r2, r3, r4]] w (TakePost w (s.step ⟨1, st, p⟩) 0) := by
  have HA := hd (fun w' hs hr hT => ask_c s.number v1 v2 v3 v4 v5 v6 r1 r2 r3 r4 s ⟨1, st, p⟩ w' hs hr hT hb (formed_kind hf))
  have HR := hd hr; have HS := hd hs; have HT := hd hT; have HBD := hd hbd; have HPB := hd hb; have HBS := hd hbs
  have HF := hd hf
  have HW := hd hw
  rw [ha] at HA
  have HNUM := hd hnum
  clear hr hf hw hs hT hb ha hbd hbs hnum
  go_enter Tryd.func8, Tryd.ntmps8
  go_upto_region 9 with (first
    | (go_at_call 23; (with_reducible refine (formed_c _ _ _ _ _ _ p _ (HR.out.below (by repeat (first | (with_reducible refine hd ?_) | (with_reducible exact Below.refl _ _) | (with_reducible assumption) | (with_reducible refine Below.alloc ?_ (by first | (simp; done) | (simp; omega) | omega) _) | (with_reducible refine Below.setCell ?_ (by first | (simp; done) | (simp; omega) | omega) _) | (with_reducible refine Below.drew ?_) | (with_reducible refine Below.drewN ?_ _) | (with_reducible refine Below.step ?_ (by with_reducible assumption)))))).mono ?_); rintro e w1 ⟨rfl, hb1⟩; rw [HF.out]; obtain ⟨hc1, hf1⟩ := bcell hb1; have hz1 := bgt3 hb1; have hz1a := Nat.lt_of_succ_lt hz1; have hz1b := Nat.lt_of_succ_lt hz1a; have HB1 := hd hb1; clear hb1)
    | (go_at_call 24; (with_reducible refine (when_c _ _ _).mono ?_); rintro e w2 ⟨rfl, rfl⟩; rw [HW.out])
    | (go_at_call 25; have hx1 := HB1.out; (with_reducible refine (HA.out _ (HS.out.below (by repeat (first | (with_reducible refine hd ?_) | (with_reducible exact Below.refl _ _) | (with_reducible assumption) | (with_reducible refine Below.alloc ?_ (by first | (simp; done) | (simp; omega) | omega) _) | (with_reducible refine Below.setCell ?_ (by first | (simp; done) | (simp; omega) | omega) _) | (with_reducible refine Below.drew ?_) | (with_reducible refine Below.drewN ?_ _) | (with_reducible refine Below.step ?_ (by with_reducible assumption))))) (HR.out.below (by repeat (first | (with_reducible refine hd ?_) | (with_reducible exact Below.refl _ _) | (with_reducible assumption) | (with_reducible refine Below.alloc ?_ (by first | (simp; done) | (simp; omega) | omega) _) | (with_reducible refine Below.setCell ?_ (by first | (simp; done) | (simp; omega) | omega) _) | (with_reducible refine Below.drew ?_) | (with_reducible refine Below.drewN ?_ _) | (with_reducible refine Below.step ?_ (by with_reducible assumption))))) (HT.out.below (B := w.heap.size) (by repeat (first | (with_reducible refine hd ?_) | (with_reducible exact Below.refl _ _) | (with_reducible assumption) | (with_reducible refine Below.alloc ?_ (by first | (simp; done) | (simp; omega) | omega) _) | (with_reducible refine Below.setCell ?_ (by first | (simp; done) | (simp; omega) | omega) _) | (with_reducible refine Below.drew ?_) | (with_reducible refine Below.drewN ?_ _) | (with_reducible refine Below.step ?_ (by with_reducible assumption)))) HT.out.pos)).mono ?_); rintro e w2 ⟨rfl, hb2⟩; obtain ⟨hc2, hf2⟩ := bcell hb2; have hz2 := Nat.lt_of_lt_of_le hz1 (bge hb2); have hz2a := Nat.lt_of_succ_lt hz2; have hz2b := Nat.lt_of_succ_lt hz2a; have HB2 := hd hb2; clear hb2 hx1)
    | (go_at_call 26; have hx1 := HB1.out; have hx2 := HB2.out; (with_reducible refine (own_c _ _ _ _ _ _ _ _ s _ (HS.out.below (by repeat (first | (with_reducible refine hd ?_) | (with_reducible exact Below.refl _ _) | (with_reducible assumption) | (with_reducible refine Below.alloc ?_ (by first | (simp; done) | (simp; omega) | omega) _) | (with_reducible refine Below.setCell ?_ (by first | (simp; done) | (simp; omega) | omega) _) | (with_reducible refine Below.drew ?_) | (with_reducible refine Below.drewN ?_ _) | (with_reducible refine Below.step ?_ (by with_reducible assumption))))) HBD.out).mono ?_); rintro e w3 ⟨u1, u2, u3, u4, u5, u6, rfl, ho3, hb3⟩; obtain ⟨hc3, hf3⟩ := bcell hb3; have hz3 := Nat.lt_of_lt_of_le hz2 (bge hb3); have hz3a := Nat.lt_of_succ_lt hz3; have hz3b := Nat.lt_of_succ_lt hz3a; have HB3 := hd hb3; obtain ⟨A1, d1, A2, d2, A3, d3, A4, d4, A5, d5, A6, d6, rfl, rfl, rfl, rfl, rfl, rfl⟩ := ho3.slices; have HO3 := hd ho3; clear hb3 hx1 hx2 ho3))
  refine gen_wp (TkS w 1 st r1 r2 r3 r4 s (.slice A1 s.plan.fr.length d1) (.slice A2 s.plan.to.length d2) (.slice A3 s.plan.steps.length d3) (.slice A4 s.plan.before.length d4) (.slice A5 s.opn.length d5) (.slice A6 s.done.length d6)) (TkS.intro HB1.out HB2.out HB3.out HO3.out) ?_
  clear hc1 hf1 hz1 hz1a hz1b hc2 hf2 hz2 hz2a hz2b hc3 hf3 hz3 hz3a hz3b HB1 HB2 HB3 HO3 HF HW HA HT HS
  clear w1 w2 w3
  intro w4 h4
  have c0 := cell_of_row w4 _ 0 _ _ _ h4.state
  have c1 := cell_of_row w4 _ 1 _ _ _ h4.state
  have c2 := cell_of_row w4 _ 2 _ _ _ h4.state
  have c3 := cell_of_row w4 _ 3 _ _ _ h4.state
  have c4 := cell_of_row w4 _ 4 _ _ _ h4.state
  have c5 := cell_of_row w4 _ 5 _ _ _ h4.state
  have c6 := cell_of_row w4 _ 6 _ _ _ h4.state
  have c7 := cell_of_row w4 _ 7 _ _ _ h4.state
  have k0 := cell_of_row w4 _ 0 _ _ _ h4.rcd
  have k1 := cell_of_row w4 _ 1 _ _ _ h4.rcd
  have k2 := cell_of_row w4 _ 2 _ _ _ h4.rcd
  have k3 := cell_of_row w4 _ 3 _ _ _ h4.rcd
  have k4 := cell_of_row w4 _ 4 _ _ _ h4.rcd
  have k5 := cell_of_row w4 _ 5 _ _ _ h4.rcd
  have o0 := cell_of_row w4 _ 0 _ _ _ h4.out
  have o1 := cell_of_row w4 _ 1 _ _ _ h4.out
  have o2 := cell_of_row w4 _ 2 _ _ _ h4.out
  have o3 := cell_of_row w4 _ 3 _ _ _ h4.out
  have o4 := cell_of_row w4 _ 4 _ _ _ h4.out
  have o5 := cell_of_row w4 _ 5 _ _ _ h4.out
  have o6 := cell_of_row w4 _ 6 _ _ _ h4.out
  have o7 := cell_of_row w4 _ 7 _ _ _ h4.out
  have z0 := fun j => frozen_of_row w4 _ j _ _ h4.state
  have z2 := fun j => frozen_of_row w4 _ j _ _ h4.out
  have H4 := hd h4; clear h4
  go_wp2
  refine wp_region_turns 94 [5, 7] [(0, 1, false), (0, 1, false), (0, 1, false), (0, 0, false), (0, 0, false), (0, 0, true), (1, 1, false), (1, 1, true)] (by kernel_rfl) (by kernel_rfl) (fun a b => a.grownBy b (some w.heap.size)) (BegF w.heap.size s.number r1 r2 r3 r4 p) (BegS w st r1 r2 r3 r4 s.number s.phase (.slice A1 s.plan.fr.length d1) (.slice A2 s.plan.to.length d2) (.slice A3 s.plan.steps.length d3) (.slice A4 s.plan.before.length d4) (.slice A5 s.opn.length d5) (.slice A6 s.done.length d6) p) (fun w => World.grownBy.refl _ _) (fun _ _ _ a b => grown_trans a b) BegF.keep ?_ rfl ?_ ?_ ?_
  · intro i v w' h
    match i with
    | 0 | 1 | 2 | 3 | 4 | 5 | 6 => simp at h
    | 7 => trivial
    | _ + 8 => trivial
  · exact BegS.of (H4.out.box.kept (Below.refl _ _).drew) (by decide)
  · refine ⟨?_, ?_, ?_, ?_, ?_, ?_, ?_, ?_, trivial⟩
    · intro k a w1 hlo hhi ht
      refine step_of_list rfl ?_
      have s1 := ht.old 2 (.pointer (some ⟨w.heap.size, 0, none⟩)) rfl (by kernel_rfl)
      have HT := hd ht
      clear ht
      go_wp2
      exact ⟨_, rfl, World.grownBy.refl _ _, rfl, HT.out.st⟩
    · intro k a w1 hlo hhi ht
      refine step_of_list rfl ?_
      have f0 : a.tmps.getD 33 undef = .pointer (some ⟨w.heap.size, 0, none⟩) := ht.fact 0 (by kernel_rfl)
      have HT := hd ht
      have hs := ht.st.box (Nat.le_trans hhi (by decide))
      have c0 := cell_of_row w1 _ 0 _ _ _ hs.state
      clear ht hs
      go_wp2
      exact ⟨_, rfl, World.grownBy.refl _ _, rfl, HT.out.st⟩
    · intro k a w1 hlo hhi ht
      refine step_of_list rfl ?_
      have f0 : a.tmps.getD 34 undef = .int .i64 s.number := ht.fact 1 (by kernel_rfl)
      have HT := hd ht
      clear ht
      go_wp2
      exact ⟨_, rfl, World.grownBy.refl _ _, by rw [wrap_next _ HNUM.out]; exact rfl, HT.out.st⟩
    · intro k a w1 hlo hhi ht
      refine step_of_list rfl ?_
      have s1 := ht.old 3 (.pointer (some ⟨w.heap.size + 1, 0, none⟩)) rfl (by kernel_rfl)
      have HT := hd ht
      clear ht
      go_wp2
      exact ⟨_, rfl, World.grownBy.refl _ _, rfl, HT.out.st⟩
    · intro k a w1 hlo hhi ht
      refine step_of_list rfl ?_
      have f0 : a.tmps.getD 36 undef = .pointer (some ⟨w.heap.size + 1, 2, none⟩) := ht.fact 3 (by kernel_rfl)
      have HT := hd ht
      have hs := ht.st.box (Nat.le_trans hhi (by decide))
      have c2 := cell_of_row w1 _ 2 _ _ _ hs.rcd
      have c3 := cell_of_row w1 _ 3 _ _ _ hs.rcd
      have c4 := cell_of_row w1 _ 4 _ _ _ hs.rcd
      have c5 := cell_of_row w1 _ 5 _ _ _ hs.rcd
      clear ht hs
      go_wp2
      exact ⟨_, rfl, World.grownBy.refl _ _, rfl, HT.out.st⟩
    · intro k a w1 hlo hhi ht
      refine step_of_list rfl ?_
      have f0 : a.tmps.getD 37 undef = .agg #[r1, r2, r3, r4] := ht.fact 4 (by kernel_rfl)
      have hs := ht.st.box (Nat.le_trans hhi (by decide))
      have hk : k ≤ 0 := hhi
      have HS := hd hs; have HK := hd hk
      clear ht hs hlo hhi hk
      go_wp2_with (go_at_call 27; (with_reducible refine (copied_c _ _ _ _ p _ (HR.out.below HS.out.below) HPB.out).mono ?_); rintro e w2 ⟨y1, y2, y3, y4, rfl, ho, hb2⟩)
      exact ⟨_, rfl, grown_of_below hb2 _, ⟨y1, y2, y3, y4, rfl, ho.mono (by have := HS.out.size; omega)⟩, BegS.of (HS.out.kept hb2) (by have := HK.out; simp; omega)⟩
    · intro k a w1 hlo hhi ht
      refine step_of_list rfl ?_
      have f0 : a.tmps[35]?.getD undef = .int .i64 (s.number + 1) := by have := ht.fact 2 (by kernel_rfl); rw [← Array.getD_eq_getD_getElem?]; exact this
      obtain ⟨y1, y2, y3, y4, f5, ho⟩ := ht.fact 5 (by kernel_rfl)
      obtain ⟨B1, e1, B2, e2, B3, e3, B4, e4, rfl, rfl, rfl, rfl⟩ := ho.slices
      replace f5 : a.tmps.getD 38 undef = _ := f5
      rw [Array.getD_eq_getD_getElem?] at f5
      have HT := hd ht; have HO := hd ho
      clear ht ho
      go_wp2
      exact ⟨_, rfl, World.grownBy.refl _ _, ⟨_, _, _, _, rfl, HO.out⟩, HT.out.st⟩
    · intro k a w1 hlo hhi ht
      refine step_of_list rfl ?_
      have s2 := ht.old 2 (.pointer (some ⟨w.heap.size, 0, none⟩)) rfl (by kernel_rfl)
      obtain ⟨y1, y2, y3, y4, f5, ho⟩ := ht.fact 6 (by kernel_rfl)
      obtain ⟨B1, e1, B2, e2, B3, e3, B4, e4, rfl, rfl, rfl, rfl⟩ := ho.slices
      replace f5 : a.tmps.getD 39 undef = _ := f5
      have hk : k = 1 := Nat.le_antisymm hhi hlo
      subst hk
      have hs := ht.st.box (by decide)
      have c0 := cell_of_row w1 _ 0 _ _ _ hs.state
      have c1 := cell_of_row w1 _ 1 _ _ _ hs.state
      have c2 := cell_of_row w1 _ 2 _ _ _ hs.state
      have c3 := cell_of_row w1 _ 3 _ _ _ hs.state
      have c4 := cell_of_row w1 _ 4 _ _ _ hs.state
      have c5 := cell_of_row w1 _ 5 _ _ _ hs.state
      have c6 := cell_of_row w1 _ 6 _ _ _ hs.state
      have c7 := cell_of_row w1 _ 7 _ _ _ hs.state
      have z0 := fun j => frozen_of_row w1 _ j _ _ hs.state
      have HO := hd ho; have HS := hd hs
      clear ht ho hs hlo hhi
      go_wp2
      refine ⟨rfl, eight_grown _ _ _ _ _ _ _ _ _ _, ⟨undef, trivial⟩, ?_⟩
      unfold BegS
      rw [if_neg (by decide)]
      exact ⟨_, _, _, _, HS.out.put8, HO.out.kept (eight_grown _ _ _ _ _ _ _ _ _ _) (by omega)⟩
  · intro vs w2 hS hR hF
    unfold BegS at hS
    rw [if_neg (by decide)] at hS
    obtain ⟨y1, y2, y3, y4, hs, ho⟩ := hS
    obtain ⟨B1, e1, B2, e2, B3, e3, B4, e4, rfl, rfl, rfl, rfl⟩ := ho.slices
    have c0 := cell_of_row w2 _ 0 _ _ _ hs.state
    have c1 := cell_of_row w2 _ 1 _ _ _ hs.state
    have c2 := cell_of_row w2 _ 2 _ _ _ hs.state
    have c3 := cell_of_row w2 _ 3 _ _ _ hs.state
    have c4 := cell_of_row w2 _ 4 _ _ _ hs.state
    have c5 := cell_of_row w2 _ 5 _ _ _ hs.state
    have c6 := cell_of_row w2 _ 6 _ _ _ hs.state
    have c7 := cell_of_row w2 _ 7 _ _ _ hs.state
    have o0 := cell_of_row w2 _ 0 _ _ _ hs.out
    have o1 := cell_of_row w2 _ 1 _ _ _ hs.out
    have o2 := cell_of_row w2 _ 2 _ _ _ hs.out
    have o3 := cell_of_row w2 _ 3 _ _ _ hs.out
    have o4 := cell_of_row w2 _ 4 _ _ _ hs.out
    have o5 := cell_of_row w2 _ 5 _ _ _ hs.out
    have o6 := cell_of_row w2 _ 6 _ _ _ hs.out
    have o7 := cell_of_row w2 _ 7 _ _ _ hs.out
    have z2 := fun j => frozen_of_row w2 _ j _ _ hs.out
    have HS := hd hs; have HO := hd ho
    clear hR hF ho hs
    simp only [putAll, Act.put, List.setIfInBounds_toArray, List.set_cons_succ, List.set_cons_zero, Nat.zero_add, Nat.reduceAdd]
    go_wp2
    refine bodyPost_ret (v := .tuple #[.agg #[.int .i64 (s.number + 1), .int .i64 1, .slice B1 p.fr.length e1, .slice B2 p.to.length e2, .slice B3 p.steps.length e3, .slice B4 p.before.length e4, .slice none 0 0, .slice none 0 0], .int .i64 0]) (by simp [results, Tryd.results8, go_sem, o0, o1, o2, o3, o4, o5, o6, o7]) rfl ?_
    exact TkS.fin (s := ⟨s.number + 1, 1, p, [], []⟩) (base := w.heap.size) HS.out.below HS.out.size HO.out ⟨rfl, .inl ⟨rfl, rfl⟩⟩ ⟨rfl, .inl ⟨rfl, rfl⟩⟩ HBS.out _ _ _ _ _ _ _ _ _ rfl
end Go.Proofs.YtaamjpeehejafaaDoor
