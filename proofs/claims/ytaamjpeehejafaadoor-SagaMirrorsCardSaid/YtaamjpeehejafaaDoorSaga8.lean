/- Contracts: State.Take, taken: the kind 2. -/
import Derived.Test.YtaamjpeehejafaaDoorSaga7
set_option linter.unusedSimpArgs false
set_option linter.unusedVariables false
namespace Go.Proofs.YtaamjpeehejafaaDoor
open Go Go.RowKit

theorem Sl.one (w : World) (v : Value) (t : TypeId) (fr : Nat × Nat) : Sl (w.alloc (.cells #[v] t fr)) (.slice (some ⟨w.heap.size, 0, none⟩) 1 1) 1 [v] := by
  refine ⟨⟨some ⟨w.heap.size, 0, none⟩, 1, rfl, Nat.le_refl _, by unfold maxLen; omega, ⟨by simp, by omega⟩, fun _ => ⟨w.heap.size, 0, rfl, fun j u hj => ?_⟩⟩⟩
  match j with
  | 0 =>
    have hu : v = u := by simpa using hj
    subst hu
    rw [cell_of_row _ _ _ _ _ _ (heap_alloc_new _ _)]; rfl
  | j + 1 => simp at hj
theorem below_grown {w : World} (o : Obj) {w' : World} {row : Option Nat} (h : (w.alloc o).grownBy w' row) : w.grownBy w' row :=
  grown_trans (grown_of_below (Below.box w o) row) h
set_option maxRecDepth 100000 in
set_option maxHeartbeats 2000000 in
theorem take2 (v1 v2 v3 v4 v5 v6 r1 r2 r3 r4 : Value) (s : St) (st : Int) (p : Plan) (w : World) (hs : RSt w v1 v2 v3 v4 v5 v6 s) (hr : RPlan w r1 r2 r3 r4 p) (hT : Tab w) (hb : p.bd) (hbd : s.bd) (hf : Rec.formed ⟨2, st, p⟩ = true) (hw : when 2 s.phase = true) (ha : s.ask ⟨2, st, p⟩ = 0) (hbs : (s.step ⟨2, st, p⟩).bd) (hnum : -1 ≤ s.number ∧ s.number ≤ 1099511627776) :
    Calls Tryd.prog 8 #[.agg #[.int .i64 s.number, .int .i64 s.phase, v1, v2, v3, v4, v5, v6], .agg #[.int .i64 2, .int .i64 st, r1, r2, r3, r4]] w (TakePost w (s.step ⟨2, st, p⟩) 0) := by
  have HA := hd (fun w' hs hr hT => ask_c s.number v1 v2 v3 v4 v5 v6 r1 r2 r3 r4 s ⟨2, st, p⟩ w' hs hr hT hb (formed_kind hf))
  have HR := hd hr; have HS := hd hs; have HT := hd hT; have HBD := hd hbd; have HPB := hd hb; have HBS := hd hbs
  have HF := hd hf
  have HW := hd hw
  rw [ha] at HA
  have HNUM := hd hnum
  clear hr hf hw hs hT hb ha hbd hbs hnum
  go_enter Tryd.func8, Tryd.ntmps8
  go_upto_region 9 with (first
    | (go_at_call 23; (with_reducible refine (formed_c _ _ _ _ _ _ p _ (HR.out.below (by repeat (first | (with_reducible refine hd ?_) | (with_reducible exact Below.refl _ _) | (with_reducible assumption) | (with_reducible refine Below.alloc ?_ (by first | (simp; done) | (simp; omega) | omega) _) | (with_reducible refine Below.setCell ?_ (by first | (simp; done) | (simp; omega) | omega) _) | (with_reducible refine Below.drew ?_) | (with_reducible refine Below.drewN ?_ _) | (with_reducible refine Below.step ?_ (by with_reducible assumption)))))).mono ?_); rintro e w1 ⟨rfl, hb1⟩; rw [HF.out]; obtain ⟨hc1, hf1⟩ := bcell hb1; have hz1 := bgt3 hb1; have hz1a := Nat.lt_of_succ_lt hz1; have hz1b := Nat.lt_of_succ_lt hz1a; have HB1 := hd hb1; clear hb1)
    | (go_at_call 24; (with_reducible refine (when_c _ _ _).mono ?_); rintro e w2 ⟨rfl, rfl⟩; rw [HW.out])
    | (go_at_call 25; have hx1 := HB1.out; (with_reducible refine (HA.out _ (HS.out.below (by repeat (first | (with_reducible refine hd ?_) | (with_reducible exact Below.refl _ _) | (with_reducible assumption) | (with_reducible refine Below.alloc ?_ (by first | (simp; done) | (simp; omega) | omega) _) | (with_reducible refine Below.setCell ?_ (by first | (simp; done) | (simp; omega) | omega) _) | (with_reducible refine Below.drew ?_) | (with_reducible refine Below.drewN ?_ _) | (with_reducible refine Below.step ?_ (by with_reducible assumption))))) (HR.out.below (by repeat (first | (with_reducible refine hd ?_) | (with_reducible exact Below.refl _ _) | (with_reducible assumption) | (with_reducible refine Below.alloc ?_ (by first | (simp; done) | (simp; omega) | omega) _) | (with_reducible refine Below.setCell ?_ (by first | (simp; done) | (simp; omega) | omega) _) | (with_reducible refine Below.drew ?_) | (with_reducible refine Below.drewN ?_ _) | (with_reducible refine Below.step ?_ (by with_reducible assumption))))) (HT.out.below (B := w.heap.size) (by repeat (first | (with_reducible refine hd ?_) | (with_reducible exact Below.refl _ _) | (with_reducible assumption) | (with_reducible refine Below.alloc ?_ (by first | (simp; done) | (simp; omega) | omega) _) | (with_reducible refine Below.setCell ?_ (by first | (simp; done) | (simp; omega) | omega) _) | (with_reducible refine Below.drew ?_) | (with_reducible refine Below.drewN ?_ _) | (with_reducible refine Below.step ?_ (by with_reducible assumption)))) HT.out.pos)).mono ?_); rintro e w2 ⟨rfl, hb2⟩; obtain ⟨hc2, hf2⟩ := bcell hb2; have hz2 := Nat.lt_of_lt_of_le hz1 (bge hb2); have hz2a := Nat.lt_of_succ_lt hz2; have hz2b := Nat.lt_of_succ_lt hz2a; have HB2 := hd hb2; clear hb2 hx1)
    | (go_at_call 26; have hx1 := HB1.out; have hx2 := HB2.out; (with_reducible refine (own_c _ _ _ _ _ _ _ _ s _ (HS.out.below (by repeat (first | (with_reducible refine hd ?_) | (with_reducible exact Below.refl _ _) | (with_reducible assumption) | (with_reducible refine Below.alloc ?_ (by first | (simp; done) | (simp; omega) | omega) _) | (with_reducible refine Below.setCell ?_ (by first | (simp; done) | (simp; omega) | omega) _) | (with_reducible refine Below.drew ?_) | (with_reducible refine Below.drewN ?_ _) | (with_reducible refine Below.step ?_ (by with_reducible assumption))))) HBD.out).mono ?_); rintro e w3 ⟨u1, u2, u3, u4, u5, u6, rfl, ho3, hb3⟩; obtain ⟨hc3, hf3⟩ := bcell hb3; have hz3 := Nat.lt_of_lt_of_le hz2 (bge hb3); have hz3a := Nat.lt_of_succ_lt hz3; have hz3b := Nat.lt_of_succ_lt hz3a; have HB3 := hd hb3; obtain ⟨A1, d1, A2, d2, A3, d3, A4, d4, A5, d5, A6, d6, rfl, rfl, rfl, rfl, rfl, rfl⟩ := ho3.slices; have HO3 := hd ho3; clear hb3 hx1 hx2 ho3))
  refine gen_wp (TkS w 2 st r1 r2 r3 r4 s (.slice A1 s.plan.fr.length d1) (.slice A2 s.plan.to.length d2) (.slice A3 s.plan.steps.length d3) (.slice A4 s.plan.before.length d4) (.slice A5 s.opn.length d5) (.slice A6 s.done.length d6)) (TkS.intro HB1.out HB2.out HB3.out HO3.out) ?_
  clear hc1 hf1 hz1 hz1a hz1b hc2 hf2 hz2 hz2a hz2b hc3 hf3 hz3 hz3a hz3b HB1 HB2 HB3 HO3 HF HW HA HT HS
  clear w1 w2 w3
  intro w4 h4
  have c0 := cell_of_row w4 _ 0 _ _ _ h4.state
  have c1 := cell_of_row w4 _ 1 _ _ _ h4.state
  have c2 := cell_of_row w4 _ 2 _ _ _ h4.state
  have c3 := cell_of_row w4 _ 3 _ _ _ h4.state
  have c4 := cell_of_row w4 _ 4 _ _ _ h4.state
  have c5 := cell_of_row w4 _ 5 _ _ _ h4.state
  have c6 := cell_of_row w4 _ 6 _ _ _ h4.state
  have c7 := cell_of_row w4 _ 7 _ _ _ h4.state
  have k0 := cell_of_row w4 _ 0 _ _ _ h4.rcd
  have k1 := cell_of_row w4 _ 1 _ _ _ h4.rcd
  have k2 := cell_of_row w4 _ 2 _ _ _ h4.rcd
  have k3 := cell_of_row w4 _ 3 _ _ _ h4.rcd
  have k4 := cell_of_row w4 _ 4 _ _ _ h4.rcd
  have k5 := cell_of_row w4 _ 5 _ _ _ h4.rcd
  have o0 := cell_of_row w4 _ 0 _ _ _ h4.out
  have o1 := cell_of_row w4 _ 1 _ _ _ h4.out
  have o2 := cell_of_row w4 _ 2 _ _ _ h4.out
  have o3 := cell_of_row w4 _ 3 _ _ _ h4.out
  have o4 := cell_of_row w4 _ 4 _ _ _ h4.out
  have o5 := cell_of_row w4 _ 5 _ _ _ h4.out
  have o6 := cell_of_row w4 _ 6 _ _ _ h4.out
  have o7 := cell_of_row w4 _ 7 _ _ _ h4.out
  have z0 := fun j => frozen_of_row w4 _ j _ _ h4.state
  have z2 := fun j => frozen_of_row w4 _ j _ _ h4.out
  have H4 := hd h4; clear h4
  have hx4 : w.heap.size + 3 ≤ w4.heap.size := H4.out.size
  have hl5 : s.opn.length + 1 ≤ 1099511627776 := by have := HBS.out.opn; simpa [St.step] using this
  have HO5 := hd H4.out.own.opn
  go_wp2_with (at_builtin; refine wpList_append_sl rfl _ _ _ rfl (w.heap.size + 3) 3 (.int .i64 0) 1 8 Tryd.underlying25 (by kernel_rfl) rfl (by decide) _ rfl _ _ (own_below HO5.out (Below.box _ _)) _ rfl 1 [.int .i64 st] (Sl.one _ _ _ _) rfl (by intro u hu; simp at hu; subst hu; rfl) (by unfold maxLen; omega) (by omega) (by simp; omega) ?_)
  intro v5 w5 hown hgr
  obtain ⟨A5', d5', rfl⟩ := own_slice hown
  have hgr2 := below_grown _ hgr
  obtain ⟨e1, e2, e3, hb5, hz5⟩ := H4.out.later hgr2 (fun k hk => (H4.out.own.opn.lt k hk).1)
  have c0 := cell_of_row w5 _ 0 _ _ _ e1
  have c1 := cell_of_row w5 _ 1 _ _ _ e1
  have c2 := cell_of_row w5 _ 2 _ _ _ e1
  have c3 := cell_of_row w5 _ 3 _ _ _ e1
  have c4 := cell_of_row w5 _ 4 _ _ _ e1
  have c5 := cell_of_row w5 _ 5 _ _ _ e1
  have c6 := cell_of_row w5 _ 6 _ _ _ e1
  have c7 := cell_of_row w5 _ 7 _ _ _ e1
  have o0 := cell_of_row w5 _ 0 _ _ _ e3
  have o1 := cell_of_row w5 _ 1 _ _ _ e3
  have o2 := cell_of_row w5 _ 2 _ _ _ e3
  have o3 := cell_of_row w5 _ 3 _ _ _ e3
  have o4 := cell_of_row w5 _ 4 _ _ _ e3
  have o5 := cell_of_row w5 _ 5 _ _ _ e3
  have o6 := cell_of_row w5 _ 6 _ _ _ e3
  have o7 := cell_of_row w5 _ 7 _ _ _ e3
  have z0 := fun j => frozen_of_row w5 _ j _ _ e1
  have z2 := fun j => frozen_of_row w5 _ j _ _ e3
  have HO := hd hown; have HG := hd hgr2; have HB := hd hb5; have HZ := hd hz5
  clear hown hgr hgr2 e1 e2 e3 hb5 hz5
  go_wp2
  have q := set_grown w5 w.heap.size 6 (.slice A5' (s.opn.length + 1) d5')
  refine bodyPost_ret (v := .tuple #[.agg #[.int .i64 s.number, .int .i64 s.phase, .slice A1 s.plan.fr.length d1, .slice A2 s.plan.to.length d2, .slice A3 s.plan.steps.length d3, .slice A4 s.plan.before.length d4, .slice A5' (s.opn.length + 1) d5', .slice A6 s.done.length d6], .int .i64 0]) (by simp [results, Tryd.results8, go_sem, o0, o1, o2, o3, o4, o5, o6, o7]) rfl ?_
  refine TkS.fin (s := { s with opn := s.opn ++ [st] }) (base := w.heap.size) (Below.grown HB.out q HB.out.size (by intro k hk; injection hk with hk; omega)) (Nat.le_trans HZ.out q.size) ((H4.out.own.plan.other HG.out H4.out.own.ap5 (by simp)).kept q (by omega)) ?_ (own_kept (own_other H4.out.own.done HG.out (fun g hg => fun h => H4.out.own.ap6 g h _ (by simp) hg)) q (by omega)) HBS.out _ _ _ _ _ _ _ _ _ rfl
  have := own_kept HO.out q (by omega)
  simpa [ints] using this
end Go.Proofs.YtaamjpeehejafaaDoor
