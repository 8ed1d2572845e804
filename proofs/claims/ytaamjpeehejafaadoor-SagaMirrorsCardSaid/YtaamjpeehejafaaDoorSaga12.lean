/- Contracts: State.Take, taken: the kind 3. -/
import Derived.Test.YtaamjpeehejafaaDoorSaga11
set_option linter.unusedSimpArgs false
set_option linter.unusedVariables false
namespace Go.Proofs.YtaamjpeehejafaaDoor
open Go Go.RowKit

def More3 (g : Nat) (st : Int) (u6 : Value) : Nat → Value → World → Prop
  | 9, v, w => ∃ b t fr, v = .slice (some ⟨b, 0, none⟩) 1 1 ∧ w.heap[b]? = some (.cells #[.int .i64 st] t fr) ∧ b ≠ g ∧ u6.ownBlock ≠ some b
  | 11, v, _ => v = .pointer (some ⟨g, 6, none⟩)
  | 13, v, _ => v = .pointer (some ⟨g, 7, none⟩)
  | _, _, _ => True
theorem More3.keep {g : Nat} {st : Int} {u6 : Value} (i : Nat) (v : Value) (w w' : World) (h : More3 g st u6 i v w) (hb : OffBy u6.ownBlock g w w') : More3 g st u6 i v w' := by
  unfold More3 at h ⊢
  split at h
  · obtain ⟨b, t, fr, h1, h2, h3, h4⟩ := h
    exact ⟨b, t, fr, h1, by rw [hb.block b (Array.getElem?_eq_some_iff.1 h2).1 h3 h4]; exact h2, h3, h4⟩
  · exact h
  · exact h
  · trivial
theorem Sl.oneAt {w : World} {b : Nat} {v : Value} {t : TypeId} {fr : Nat × Nat} (h : w.heap[b]? = some (.cells #[v] t fr)) : Sl w (.slice (some ⟨b, 0, none⟩) 1 1) 1 [v] := by
  refine ⟨⟨some ⟨b, 0, none⟩, 1, rfl, Nat.le_refl _, by unfold maxLen; omega, ⟨by simp, by omega⟩, fun _ => ⟨b, 0, rfl, fun j u hj => ?_⟩⟩⟩
  match j with
  | 0 =>
    have hu : v = u := by simpa using hj
    subst hu
    rw [cell_of_row _ _ _ _ _ _ h]; rfl
  | j + 1 => simp at hj
set_option maxRecDepth 100000 in
set_option maxHeartbeats 2000000 in
theorem take3 (v1 v2 v3 v4 v5 v6 r1 r2 r3 r4 : Value) (s : St) (st : Int) (p : Plan) (w : World) (hs : RSt w v1 v2 v3 v4 v5 v6 s) (hr : RPlan w r1 r2 r3 r4 p) (hT : Tab w) (hb : p.bd) (hbd : s.bd) (hf : Rec.formed ⟨3, st, p⟩ = true) (hw : when 3 s.phase = true) (ha : s.ask ⟨3, st, p⟩ = 0) (hbs : (s.step ⟨3, st, p⟩).bd) (hnum : -1 ≤ s.number ∧ s.number ≤ 1099511627776) :
    Calls Tryd.prog 8 #[.agg #[.int .i64 s.number, .int .i64 s.phase, v1, v2, v3, v4, v5, v6], .agg #[.int .i64 3, .int .i64 st, r1, r2, r3, r4]] w (TakePost w (s.step ⟨3, st, p⟩) 0) := by
  have HA := hd (fun w' hs hr hT => ask_c s.number v1 v2 v3 v4 v5 v6 r1 r2 r3 r4 s ⟨3, st, p⟩ w' hs hr hT hb (formed_kind hf))
  have HR := hd hr; have HS := hd hs; have HT := hd hT; have HBD := hd hbd; have HPB := hd hb; have HBS := hd hbs
  have HF := hd hf
  have HW := hd hw
  rw [ha] at HA
  have HNUM := hd hnum
  clear hr hf hw hs hT hb ha hbd hbs hnum
  go_enter Tryd.func8, Tryd.ntmps8
  go_upto_region 9 with (first
    | (go_at_call 23; (with_reducible refine (formed_c _ _ _ _ _ _ p _ (HR.out.below (by repeat (first | (with_reducible refine hd ?_) | (with_reducible exact Below.refl _ _) | (with_reducible assumption) | (with_reducible refine Below.alloc ?_ (by first | (simp; done) | (simp; omega) | omega) _) | (with_reducible refine Below.setCell ?_ (by first | (simp; done) | (simp; omega) | omega) _) | (with_reducible refine Below.drew ?_) | (with_reducible refine Below.drewN ?_ _) | (with_reducible refine Below.step ?_ (by with_reducible assumption)))))).mono ?_); rintro e w1 ⟨rfl, hb1⟩; rw [HF.out]; obtain ⟨hc1, hf1⟩ := bcell hb1; have hz1 := bgt3 hb1; have hz1a := Nat.lt_of_succ_lt hz1; have hz1b := Nat.lt_of_succ_lt hz1a; have HB1 := hd hb1; clear hb1)
    | (go_at_call 24; (with_reducible refine (when_c _ _ _).mono ?_); rintro e w2 ⟨rfl, rfl⟩; rw [HW.out])
    | (go_at_call 25; have hx1 := HB1.out; (with_reducible refine (HA.out _ (HS.out.below (by repeat (first | (with_reducible refine hd ?_) | (with_reducible exact Below.refl _ _) | (with_reducible assumption) | (with_reducible refine Below.alloc ?_ (by first | (simp; done) | (simp; omega) | omega) _) | (with_reducible refine Below.setCell ?_ (by first | (simp; done) | (simp; omega) | omega) _) | (with_reducible refine Below.drew ?_) | (with_reducible refine Below.drewN ?_ _) | (with_reducible refine Below.step ?_ (by with_reducible assumption))))) (HR.out.below (by repeat (first | (with_reducible refine hd ?_) | (with_reducible exact Below.refl _ _) | (with_reducible assumption) | (with_reducible refine Below.alloc ?_ (by first | (simp; done) | (simp; omega) | omega) _) | (with_reducible refine Below.setCell ?_ (by first | (simp; done) | (simp; omega) | omega) _) | (with_reducible refine Below.drew ?_) | (with_reducible refine Below.drewN ?_ _) | (with_reducible refine Below.step ?_ (by with_reducible assumption))))) (HT.out.below (B := w.heap.size) (by repeat (first | (with_reducible refine hd ?_) | (with_reducible exact Below.refl _ _) | (with_reducible assumption) | (with_reducible refine Below.alloc ?_ (by first | (simp; done) | (simp; omega) | omega) _) | (with_reducible refine Below.setCell ?_ (by first | (simp; done) | (simp; omega) | omega) _) | (with_reducible refine Below.drew ?_) | (with_reducible refine Below.drewN ?_ _) | (with_reducible refine Below.step ?_ (by with_reducible assumption)))) HT.out.pos)).mono ?_); rintro e w2 ⟨rfl, hb2⟩; obtain ⟨hc2, hf2⟩ := bcell hb2; have hz2 := Nat.lt_of_lt_of_le hz1 (bge hb2); have hz2a := Nat.lt_of_succ_lt hz2; have hz2b := Nat.lt_of_succ_lt hz2a; have HB2 := hd hb2; clear hb2 hx1)
    | (go_at_call 26; have hx1 := HB1.out; have hx2 := HB2.out; (with_reducible refine (own_c _ _ _ _ _ _ _ _ s _ (HS.out.below (by repeat (first | (with_reducible refine hd ?_) | (with_reducible exact Below.refl _ _) | (with_reducible assumption) | (with_reducible refine Below.alloc ?_ (by first | (simp; done) | (simp; omega) | omega) _) | (with_reducible refine Below.setCell ?_ (by first | (simp; done) | (simp; omega) | omega) _) | (with_reducible refine Below.drew ?_) | (with_reducible refine Below.drewN ?_ _) | (with_reducible refine Below.step ?_ (by with_reducible assumption))))) HBD.out).mono ?_); rintro e w3 ⟨u1, u2, u3, u4, u5, u6, rfl, ho3, hb3⟩; obtain ⟨hc3, hf3⟩ := bcell hb3; have hz3 := Nat.lt_of_lt_of_le hz2 (bge hb3); have hz3a := Nat.lt_of_succ_lt hz3; have hz3b := Nat.lt_of_succ_lt hz3a; have HB3 := hd hb3; obtain ⟨A1, d1, A2, d2, A3, d3, A4, d4, A5, d5, A6, d6, rfl, rfl, rfl, rfl, rfl, rfl⟩ := ho3.slices; have HO3 := hd ho3; clear hb3 hx1 hx2 ho3))
  refine gen_wp (TkS w 3 st r1 r2 r3 r4 s (.slice A1 s.plan.fr.length d1) (.slice A2 s.plan.to.length d2) (.slice A3 s.plan.steps.length d3) (.slice A4 s.plan.before.length d4) (.slice A5 s.opn.length d5) (.slice A6 s.done.length d6)) (TkS.intro HB1.out HB2.out HB3.out HO3.out) ?_
  clear hc1 hf1 hz1 hz1a hz1b hc2 hf2 hz2 hz2a hz2b hc3 hf3 hz3 hz3a hz3b HB1 HB2 HB3 HO3 HF HW HA HT HS
  clear w1 w2 w3
  intro w4 h4
  have c0 := cell_of_row w4 _ 0 _ _ _ h4.state
  have c1 := cell_of_row w4 _ 1 _ _ _ h4.state
  have c2 := cell_of_row w4 _ 2 _ _ _ h4.state
  have c3 := cell_of_row w4 _ 3 _ _ _ h4.state
  have c4 := cell_of_row w4 _ 4 _ _ _ h4.state
  have c5 := cell_of_row w4 _ 5 _ _ _ h4.state
  have c6 := cell_of_row w4 _ 6 _ _ _ h4.state
  have c7 := cell_of_row w4 _ 7 _ _ _ h4.state
  have k0 := cell_of_row w4 _ 0 _ _ _ h4.rcd
  have k1 := cell_of_row w4 _ 1 _ _ _ h4.rcd
  have k2 := cell_of_row w4 _ 2 _ _ _ h4.rcd
  have k3 := cell_of_row w4 _ 3 _ _ _ h4.rcd
  have k4 := cell_of_row w4 _ 4 _ _ _ h4.rcd
  have k5 := cell_of_row w4 _ 5 _ _ _ h4.rcd
  have o0 := cell_of_row w4 _ 0 _ _ _ h4.out
  have o1 := cell_of_row w4 _ 1 _ _ _ h4.out
  have o2 := cell_of_row w4 _ 2 _ _ _ h4.out
  have o3 := cell_of_row w4 _ 3 _ _ _ h4.out
  have o4 := cell_of_row w4 _ 4 _ _ _ h4.out
  have o5 := cell_of_row w4 _ 5 _ _ _ h4.out
  have o6 := cell_of_row w4 _ 6 _ _ _ h4.out
  have o7 := cell_of_row w4 _ 7 _ _ _ h4.out
  have z0 := fun j => frozen_of_row w4 _ j _ _ h4.state
  have z2 := fun j => frozen_of_row w4 _ j _ _ h4.out
  have H4 := hd h4; clear h4
  have hl6 : s.done.length + 1 ≤ 1099511627776 := by have := HBS.out.done; simpa [St.step] using this
  go_wp2
  refine wp_region_turns3 94 [4, 10, 12, 14] [(0, 0, false), (0, 0, false), (0, 0, false), (0, 0, false), (0, 0, true), (0, 1, false), (0, 1, false), (0, 1, false), (0, 1, false), (0, 1, false), (1, 1, true), (1, 2, false), (2, 2, true), (3, 3, false), (3, 3, true)] (by kernel_rfl) (by kernel_rfl) (OffBy (Value.slice A6 s.done.length d6).ownBlock w.heap.size) (SwF w.heap.size st (.slice A5 s.opn.length d5) (.slice A6 s.done.length d6) (without s.opn st) (More3 w.heap.size st (.slice A6 s.done.length d6))) (TurnE 10 w 3 st r1 r2 r3 r4 s (.slice A1 s.plan.fr.length d1) (.slice A2 s.plan.to.length d2) (.slice A3 s.plan.steps.length d3) (.slice A4 s.plan.before.length d4) (.slice A5 s.opn.length d5) (.slice A6 s.done.length d6) (without s.opn st) (s.done ++ [st])) (fun w => OffBy.refl _ _ _) (fun _ _ _ a b => a.trans b) (SwF.keep More3.keep) ?_ rfl ?_ ?_ ?_
  · intro i v w' h
    match i with
    | 0 | 1 | 2 | 3 | 4 | 5 | 6 | 7 | 8 | 9 | 10 | 11 | 13 => simp at h
    | 12 | 14 => trivial
    | _ + 15 => trivial
  · refine ⟨_, _, TurnS.later (w := w4) (y := undef) ⟨H4.out.box, H4.out.own.plan, fun _ => ⟨rfl, rfl⟩, fun _ => H4.out.own.opn, fun _ => H4.out.own.done, fun h => by omega, fun h => by omega, fun h => by omega⟩ ?_ (fun h => by omega)⟩
    exact (Below.refl _ _).drew
  · refine ⟨?_, ?_, ?_, ?_, ?_, ?_, ?_, ?_, ?_, ?_, ?_, ?_, ?_, ?_, ?_, trivial⟩
    · intro k a w1 hlo hhi ht
      refine step_of_list rfl ?_
      have s1 := ht.old 2 (.pointer (some ⟨w.heap.size, 0, none⟩)) rfl (by kernel_rfl)
      have HT := hd ht
      clear ht
      go_wp2
      exact ⟨_, rfl, OffBy.refl _ _ _, rfl, fun σ hσ _ => TurnE.later HT.out.st (Below.refl _ _) (hσ 10 (by decide))⟩
    · intro k a w1 hlo hhi ht
      refine step_of_list rfl ?_
      have f0 : a.tmps.getD 51 undef = .pointer (some ⟨w.heap.size, 6, none⟩) := ht.fact 0 (by kernel_rfl)
      have HT := hd ht
      obtain ⟨x5, x6, hs⟩ := ht.st
      obtain ⟨rfl, rfl⟩ := hs.old (Nat.le_trans hhi (by decide)); have c0 := cell_of_row w1 _ 6 _ _ _ hs.box.state
      clear ht hs
      go_wp2
      exact ⟨_, rfl, OffBy.refl _ _ _, rfl, fun σ hσ _ => TurnE.later HT.out.st (Below.refl _ _) (hσ 10 (by decide))⟩
    · intro k a w1 hlo hhi ht
      refine step_of_list rfl ?_
      have s1 := ht.old 3 (.pointer (some ⟨w.heap.size + 1, 0, none⟩)) rfl (by kernel_rfl)
      have HT := hd ht
      clear ht
      go_wp2
      exact ⟨_, rfl, OffBy.refl _ _ _, rfl, fun σ hσ _ => TurnE.later HT.out.st (Below.refl _ _) (hσ 10 (by decide))⟩
    · intro k a w1 hlo hhi ht
      refine step_of_list rfl ?_
      have f0 : a.tmps.getD 53 undef = .pointer (some ⟨w.heap.size + 1, 1, none⟩) := ht.fact 2 (by kernel_rfl)
      have HT := hd ht
      obtain ⟨x5, x6, hs⟩ := ht.st
      have c0 := cell_of_row w1 _ 1 _ _ _ hs.box.rcd
      clear ht hs
      go_wp2
      exact ⟨_, rfl, OffBy.refl _ _ _, rfl, fun σ hσ _ => TurnE.later HT.out.st (Below.refl _ _) (hσ 10 (by decide))⟩
    · intro k a w1 hlo hhi ht
      refine step_of_list rfl ?_
      have f1 : a.tmps.getD 52 undef = .slice A5 s.opn.length d5 := ht.fact 1 (by kernel_rfl)
      have f3 : a.tmps[52 + 2]?.getD undef = .int .i64 st := by have := ht.fact 3 (by kernel_rfl); rw [← Array.getD_eq_getD_getElem?]; exact this
      obtain ⟨x5, x6, hs⟩ := ht.st
      have hk : k = 0 := Nat.le_antisymm hhi (Nat.zero_le _)
      subst hk
      have HS := hd hs
      clear ht hs hlo hhi
      rw [Array.getD_eq_getD_getElem?] at f1
      go_wp2_with (go_at_call 28; (with_reducible refine (drop_c _ s.opn _ _ (Sl.of_own (HS.out.o5 (Nat.le_refl _)) (by have := HBD.out.opn; omega)) HBD.out.opn).mono ?_); rintro e w2 ⟨v', rfl, ho, hb2⟩)
      exact ⟨_, rfl, OffBy.of_below hb2, ⟨own_mono ho (by have := HS.out.box.size; omega), fun k hk h => apartL_new ho (HS.out.o6 (by omega)) rfl k h hk⟩, fun σ hσ _ => ⟨_, _, (HS.out.later (y' := undef) hb2 (fun h => by omega)).one⟩⟩
    · intro k a w1 hlo hhi ht
      refine step_of_list rfl ?_
      have s1 := ht.old 2 (.pointer (some ⟨w.heap.size, 0, none⟩)) rfl (by kernel_rfl)
      have HT := hd ht
      clear ht
      go_wp2
      exact ⟨_, rfl, OffBy.refl _ _ _, rfl, fun σ hσ _ => TurnE.later HT.out.st (Below.refl _ _) (hσ 10 (by decide))⟩
    · intro k a w1 hlo hhi ht
      refine step_of_list rfl ?_
      have f0 : a.tmps.getD 56 undef = .pointer (some ⟨w.heap.size, 7, none⟩) := ht.fact 5 (by kernel_rfl)
      have HT := hd ht
      obtain ⟨x5, x6, hs⟩ := ht.st
      obtain ⟨rfl, rfl⟩ := hs.old (Nat.le_trans hhi (by decide)); have c0 := cell_of_row w1 _ 7 _ _ _ hs.box.state
      clear ht hs
      go_wp2
      exact ⟨_, rfl, OffBy.refl _ _ _, rfl, fun σ hσ _ => TurnE.later HT.out.st (Below.refl _ _) (hσ 10 (by decide))⟩
    · intro k a w1 hlo hhi ht
      refine step_of_list rfl ?_
      have s1 := ht.old 3 (.pointer (some ⟨w.heap.size + 1, 0, none⟩)) rfl (by kernel_rfl)
      have HT := hd ht
      clear ht
      go_wp2
      exact ⟨_, rfl, OffBy.refl _ _ _, rfl, fun σ hσ _ => TurnE.later HT.out.st (Below.refl _ _) (hσ 10 (by decide))⟩
    · intro k a w1 hlo hhi ht
      refine step_of_list rfl ?_
      have f0 : a.tmps.getD 58 undef = .pointer (some ⟨w.heap.size + 1, 1, none⟩) := ht.fact 7 (by kernel_rfl)
      have HT := hd ht
      obtain ⟨x5, x6, hs⟩ := ht.st
      have c0 := cell_of_row w1 _ 1 _ _ _ hs.box.rcd
      clear ht hs
      go_wp2
      exact ⟨_, rfl, OffBy.refl _ _ _, rfl, fun σ hσ _ => TurnE.later HT.out.st (Below.refl _ _) (hσ 10 (by decide))⟩
    · intro k a w1 hlo hhi ht
      refine step_of_list rfl ?_
      have f8 : a.tmps[59]?.getD undef = .int .i64 st := by have := ht.fact 8 (by kernel_rfl); rw [← Array.getD_eq_getD_getElem?]; exact this
      have HT := hd ht
      have hk : k ≤ 1 := Nat.le_trans hhi (by decide)
      obtain ⟨x5, x6, hs⟩ := ht.st
      have HS := hd hs
      clear ht hs hlo hhi
      go_wp2
      exact ⟨_, rfl, OffBy.of_below (Below.box _ _), ⟨_, _, _, rfl, heap_alloc_new _ _, by have := HS.out.box.size; omega, fun h => by have := ((HS.out.o6 hk).lt _ h).2; omega⟩, fun σ hσ _ => TurnE.later HT.out.st (Below.box _ _) (hσ 10 (by decide))⟩
    · intro k a w1 hlo hhi ht
      refine step_of_list rfl ?_
      have f6 : a.eval (.tmp 57) = .slice A6 s.done.length d6 := ht.fact 6 (by kernel_rfl)
      obtain ⟨b, tb, fb, f9, hb9, _, _⟩ := ht.fact 9 (by kernel_rfl)
      replace f9 : a.eval (.tmp 60) = .slice (some ⟨b, 0, none⟩) 1 1 := f9
      obtain ⟨x5, x6, hs⟩ := ht.st
      have hk : k = 1 := Nat.le_antisymm hhi hlo
      subst hk
      have HS := hd hs
      clear ht hs hlo hhi
      refine wpList_append_sl rfl (.tmp 57) (.tmp 60) 25 rfl (w.heap.size + 3) 3 (.int .i64 0) 1 8 Tryd.underlying25 (by kernel_rfl) rfl (by decide) _ f6 _ _ (HS.out.o6 (Nat.le_refl _)) _ f9 1 [.int .i64 st] (Sl.oneAt hb9) rfl (by intro u hu; simp at hu; subst hu; rfl) (by unfold maxLen; omega) (by omega) HS.out.box.size ?_
      intro v2 w2 hown hgr
      refine ⟨v2, rfl, OffBy.of_row hgr, ⟨trivial, fun σ hσ hv => ⟨x5, x6, ?_⟩⟩, trivial⟩
      rw [hv rfl]
      refine HS.out.two hgr (fun k hk => ((HS.out.o6 (Nat.le_refl _)).lt k hk).1) (HS.out.plan.other hgr H4.out.own.ap6 (by simp)) ?_
      have := hown
      simpa [ints] using this
    · intro k a w1 hlo hhi ht
      refine step_of_list rfl ?_
      have s1 := ht.old 2 (.pointer (some ⟨w.heap.size, 0, none⟩)) rfl (by kernel_rfl)
      have HT := hd ht
      clear ht
      go_wp2
      exact ⟨_, rfl, OffBy.refl _ _ _, rfl, fun σ hσ _ => TurnE.later HT.out.st (Below.refl _ _) (hσ 10 (by decide))⟩
    · intro k a w1 hlo hhi ht
      refine step_of_list rfl ?_
      have s2 : a.tmps.getD 62 undef = .pointer (some ⟨w.heap.size, 6, none⟩) := ht.fact 11 (by kernel_rfl)
      have ho := ht.fact 4 (by kernel_rfl)
      replace ho : w1.ownsRow _ _ _ (a.tmps.getD 55 undef) _ _ := ho.1
      obtain ⟨A5', d5', e1⟩ := own_slice ho
      rw [e1] at ho
      obtain ⟨x5, x6, hs⟩ := ht.st
      have hk : k = 2 := Nat.le_antisymm hhi hlo
      subst hk
      have c2 := cell_of_row w1 _ 6 _ _ _ hs.box.state
      have z0 := fun j => frozen_of_row w1 _ j _ _ hs.box.state
      have HO := hd ho; have HS := hd hs
      clear ho ht hs hlo hhi
      go_wp2
      have hs := HS.out
      exact ⟨rfl, OffBy.of_set (set_grown _ _ _ _), ⟨undef, trivial⟩, fun σ hσ => ⟨_, x6, hs.three (hσ 10 (by decide)) HO.out⟩⟩
    · intro k a w1 hlo hhi ht
      refine step_of_list rfl ?_
      have s1 := ht.old 2 (.pointer (some ⟨w.heap.size, 0, none⟩)) rfl (by kernel_rfl)
      have HT := hd ht
      clear ht
      go_wp2
      exact ⟨_, rfl, OffBy.refl _ _ _, rfl, fun σ hσ _ => TurnE.later HT.out.st (Below.refl _ _) (hσ 10 (by decide))⟩
    · intro k a w1 hlo hhi ht
      refine step_of_list rfl ?_
      have s2 : a.tmps.getD 63 undef = .pointer (some ⟨w.heap.size, 7, none⟩) := ht.fact 13 (by kernel_rfl)
      obtain ⟨x5, x6, hs⟩ := ht.st
      have hk : k = 3 := Nat.le_antisymm hhi hlo
      subst hk
      have ho : w1.ownsRow _ _ _ (a.tmps.getD 61 undef) _ _ := hs.ny (by omega)
      obtain ⟨A5', d5', e1⟩ := own_slice ho
      have c2 := cell_of_row w1 _ 7 _ _ _ hs.box.state
      have z0 := fun j => frozen_of_row w1 _ j _ _ hs.box.state
      have HS := hd hs; have E1 := hd e1
      clear ho ht hs hlo hhi
      go_wp2
      have hs := HS.out
      exact ⟨rfl, OffBy.of_set (set_grown _ _ _ _), ⟨undef, trivial⟩, fun σ hσ => ⟨x5, _, hs.four (hσ 10 (by decide)) (E1.out.trans (by simp))⟩⟩
  · intro vs w2 hS hR hF
    obtain ⟨x5, x6, hs⟩ := hS
    have h5 := hs.n5 (by decide)
    have h6 := hs.n6 (by decide)
    obtain ⟨A5', d5', rfl⟩ := own_slice h5
    obtain ⟨A6', d6', rfl⟩ := own_slice h6
    have c0 := cell_of_row w2 _ 0 _ _ _ hs.box.state
    have c1 := cell_of_row w2 _ 1 _ _ _ hs.box.state
    have c2 := cell_of_row w2 _ 2 _ _ _ hs.box.state
    have c3 := cell_of_row w2 _ 3 _ _ _ hs.box.state
    have c4 := cell_of_row w2 _ 4 _ _ _ hs.box.state
    have c5 := cell_of_row w2 _ 5 _ _ _ hs.box.state
    have c6 := cell_of_row w2 _ 6 _ _ _ hs.box.state
    have c7 := cell_of_row w2 _ 7 _ _ _ hs.box.state
    have o0 := cell_of_row w2 _ 0 _ _ _ hs.box.out
    have o1 := cell_of_row w2 _ 1 _ _ _ hs.box.out
    have o2 := cell_of_row w2 _ 2 _ _ _ hs.box.out
    have o3 := cell_of_row w2 _ 3 _ _ _ hs.box.out
    have o4 := cell_of_row w2 _ 4 _ _ _ hs.box.out
    have o5 := cell_of_row w2 _ 5 _ _ _ hs.box.out
    have o6 := cell_of_row w2 _ 6 _ _ _ hs.box.out
    have o7 := cell_of_row w2 _ 7 _ _ _ hs.box.out
    have z2 := fun j => frozen_of_row w2 _ j _ _ hs.box.out
    have HS := hd hs
    clear hR hF h5 h6 hs
    simp only [putAll, Act.put, List.setIfInBounds_toArray, List.set_cons_succ, List.set_cons_zero, Nat.zero_add, Nat.reduceAdd]
    go_wp2
    refine bodyPost_ret (v := .tuple #[.agg #[.int .i64 s.number, .int .i64 s.phase, .slice A1 s.plan.fr.length d1, .slice A2 s.plan.to.length d2, .slice A3 s.plan.steps.length d3, .slice A4 s.plan.before.length d4, .slice A5' (without s.opn st).length d5', .slice A6' (s.done ++ [st]).length d6'], .int .i64 0]) (by simp [results, Tryd.results8, go_sem, o0, o1, o2, o3, o4, o5, o6, o7]) rfl ?_
    exact TkS.fin (s := { s with opn := without s.opn st, done := s.done ++ [st] }) (base := w.heap.size) HS.out.box.below HS.out.box.size HS.out.plan (HS.out.n5 (by decide)) (HS.out.n6 (by decide)) HBS.out _ _ _ _ _ _ _ _ _ rfl
end Go.Proofs.YtaamjpeehejafaaDoor
