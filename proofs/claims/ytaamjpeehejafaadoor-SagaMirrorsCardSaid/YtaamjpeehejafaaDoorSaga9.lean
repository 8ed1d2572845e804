/- Contracts: State.Take, taken: the kind 8. -/
import Derived.Test.YtaamjpeehejafaaDoorSaga8
import Derived.Maps.OwnOps
set_option linter.unusedSimpArgs false
set_option linter.unusedVariables false
namespace Go.Proofs.YtaamjpeehejafaaDoor
open Go Go.RowKit Go.Maps

theorem wpList_insert_own {H : Type} {P : Program} (w : World) {ops : Array Oper} {rest : List Oper} {o : Oper} {a : Act} {Q : Exit → Act → World → Prop}
    (hg : o.guard = none) (m x v : Operand) (t : TypeId) (hop : o.op = Op.insert t m x v)
    (k e : TypeId) (K : Keyed P k) (ht : P.underlying t = some (.map k e)) (R : Value → Option (DataW H × List MemPlace)) (b n : Nat) (D : DataW H)
    (hm : a.eval m = .map (some b)) (hown : w.ownsMap P k R b n D) (hn : n < maxLen) (key val : Value) (kl : Lit) (hx : a.eval x = key) (hv : a.eval v = val) (hkey : keyOf P k key = some kl)
    (d : DataW H) (ps : List MemPlace) (hval : R val = some (d, ps))
    (hK : ∀ w', w'.ownsMap P k R b (n + 1) (D.put kl d) → w.grownBy w' (some b) → wpList P ops Q rest (a.put o.dst undef) w') :
    wpList P ops Q (o :: rest) a w := by
  refine wpList_plain hg fun K' hK' => ?_
  obtain ⟨w', hrun, r1, r2⟩ := hown.update K ht hn hkey hval
  unfold Oper.wp
  simp [execOp, hop, hm, hx, hv, hrun, Result.andThen]
  exact hK' _ _ (hK w' r1 r2)
theorem own_new {w w' : World} {base : Nat} {e : TypeId} {size : Nat} {v : Value} {n : Nat} {xs : List Value} (h : w.ownsRow base e size v n xs) (hg : w.grownBy w' (some w.heap.size)) : w'.ownsRow base e size v n xs :=
  h.kept hg (by
    cases hb : v.ownBlock with
    | none => exact .inl rfl
    | some k => have := (h.lt k hb).2; exact .inr (by intro e; injection e with e; omega))
theorem lawI : Keyed Tryd.prog 3 := int_keyed Tryd.underlying3
theorem zeroI (w : World) : (zeroValue 3).run Tryd.prog w = .ok (.int .i64 0) w := by kernel_rfl
theorem keyI (n : Int) (h : (Lit.int .i64 n).wf = true) : keyOf Tryd.prog 3 (.int .i64 n) = some (.int .i64 n) := keyOf_int_mk Tryd.underlying3 h
/-- the map literal read at the phase -/
theorem map_at (ph c : Int) (hph : ph = 3 ∨ ph = 2) (h : (((DataW.map ([] : List (Lit × DataW Unit))).put (.int .i64 3) (.lit (.int .i64 4))).put (.int .i64 2) (.lit (.int .i64 5))).atKey (.int .i64 ph) (.lit (.int .i64 0)) = .lit (.int .i64 c)) : c = if ph = 3 then 4 else 5 := by
  rcases hph with rfl | rfl
  · have e : (((DataW.map ([] : List (Lit × DataW Unit))).put (.int .i64 3) (.lit (.int .i64 4))).put (.int .i64 2) (.lit (.int .i64 5))).atKey (.int .i64 3) (.lit (.int .i64 0)) = .lit (.int .i64 4) := by kernel_rfl
    rw [e] at h; injection h with h; injection h with _ h; rw [← h]; rfl
  · have e : (((DataW.map ([] : List (Lit × DataW Unit))).put (.int .i64 3) (.lit (.int .i64 4))).put (.int .i64 2) (.lit (.int .i64 5))).atKey (.int .i64 2) (.lit (.int .i64 0)) = .lit (.int .i64 5) := by kernel_rfl
    rw [e] at h; injection h with h; injection h with _ h; rw [← h]; rfl
theorem when8 {ph : Int} (h : when 8 ph = true) : ph = 3 ∨ ph = 2 := by
  unfold when at h
  simp at h
  exact h
set_option maxRecDepth 100000 in
set_option maxHeartbeats 2000000 in
theorem take8 (v1 v2 v3 v4 v5 v6 r1 r2 r3 r4 : Value) (s : St) (st : Int) (p : Plan) (w : World) (hs : RSt w v1 v2 v3 v4 v5 v6 s) (hr : RPlan w r1 r2 r3 r4 p) (hT : Tab w) (hb : p.bd) (hbd : s.bd) (hf : Rec.formed ⟨8, st, p⟩ = true) (hw : when 8 s.phase = true) (ha : s.ask ⟨8, st, p⟩ = 0) (hbs : (s.step ⟨8, st, p⟩).bd) (hnum : -1 ≤ s.number ∧ s.number ≤ 1099511627776) :
    Calls Tryd.prog 8 #[.agg #[.int .i64 s.number, .int .i64 s.phase, v1, v2, v3, v4, v5, v6], .agg #[.int .i64 8, .int .i64 st, r1, r2, r3, r4]] w (TakePost w (s.step ⟨8, st, p⟩) 0) := by
  have hph := hd (when8 hw)
  have HA := hd (fun w' hs hr hT => ask_c s.number v1 v2 v3 v4 v5 v6 r1 r2 r3 r4 s ⟨8, st, p⟩ w' hs hr hT hb (formed_kind hf))
  have HR := hd hr; have HS := hd hs; have HT := hd hT; have HBD := hd hbd; have HPB := hd hb; have HBS := hd hbs
  have HF := hd hf
  have HW := hd hw
  rw [ha] at HA
  have HNUM := hd hnum
  clear hr hf hw hs hT hb ha hbd hbs hnum
  have hmm := hd (@run_makeMap Tryd.prog)
  go_enter Tryd.func8, Tryd.ntmps8
  go_upto_region 9 with (first
    | (go_at_call 23; (with_reducible refine (formed_c _ _ _ _ _ _ p _ (HR.out.below (by repeat (first | (with_reducible refine hd ?_) | (with_reducible exact Below.refl _ _) | (with_reducible assumption) | (with_reducible refine Below.alloc ?_ (by first | (simp; done) | (simp; omega) | omega) _) | (with_reducible refine Below.setCell ?_ (by first | (simp; done) | (simp; omega) | omega) _) | (with_reducible refine Below.drew ?_) | (with_reducible refine Below.drewN ?_ _) | (with_reducible refine Below.step ?_ (by with_reducible assumption)))))).mono ?_); rintro e w1 ⟨rfl, hb1⟩; rw [HF.out]; obtain ⟨hc1, hf1⟩ := bcell hb1; have hz1 := bgt3 hb1; have hz1a := Nat.lt_of_succ_lt hz1; have hz1b := Nat.lt_of_succ_lt hz1a; have HB1 := hd hb1; clear hb1)
    | (go_at_call 24; (with_reducible refine (when_c _ _ _).mono ?_); rintro e w2 ⟨rfl, rfl⟩; rw [HW.out])
    | (go_at_call 25; have hx1 := HB1.out; (with_reducible refine (HA.out _ (HS.out.below (by repeat (first | (with_reducible refine hd ?_) | (with_reducible exact Below.refl _ _) | (with_reducible assumption) | (with_reducible refine Below.alloc ?_ (by first | (simp; done) | (simp; omega) | omega) _) | (with_reducible refine Below.setCell ?_ (by first | (simp; done) | (simp; omega) | omega) _) | (with_reducible refine Below.drew ?_) | (with_reducible refine Below.drewN ?_ _) | (with_reducible refine Below.step ?_ (by with_reducible assumption))))) (HR.out.below (by repeat (first | (with_reducible refine hd ?_) | (with_reducible exact Below.refl _ _) | (with_reducible assumption) | (with_reducible refine Below.alloc ?_ (by first | (simp; done) | (simp; omega) | omega) _) | (with_reducible refine Below.setCell ?_ (by first | (simp; done) | (simp; omega) | omega) _) | (with_reducible refine Below.drew ?_) | (with_reducible refine Below.drewN ?_ _) | (with_reducible refine Below.step ?_ (by with_reducible assumption))))) (HT.out.below (B := w.heap.size) (by repeat (first | (with_reducible refine hd ?_) | (with_reducible exact Below.refl _ _) | (with_reducible assumption) | (with_reducible refine Below.alloc ?_ (by first | (simp; done) | (simp; omega) | omega) _) | (with_reducible refine Below.setCell ?_ (by first | (simp; done) | (simp; omega) | omega) _) | (with_reducible refine Below.drew ?_) | (with_reducible refine Below.drewN ?_ _) | (with_reducible refine Below.step ?_ (by with_reducible assumption)))) HT.out.pos)).mono ?_); rintro e w2 ⟨rfl, hb2⟩; obtain ⟨hc2, hf2⟩ := bcell hb2; have hz2 := Nat.lt_of_lt_of_le hz1 (bge hb2); have hz2a := Nat.lt_of_succ_lt hz2; have hz2b := Nat.lt_of_succ_lt hz2a; have HB2 := hd hb2; clear hb2 hx1)
    | (go_at_call 26; have hx1 := HB1.out; have hx2 := HB2.out; (with_reducible refine (own_c _ _ _ _ _ _ _ _ s _ (HS.out.below (by repeat (first | (with_reducible refine hd ?_) | (with_reducible exact Below.refl _ _) | (with_reducible assumption) | (with_reducible refine Below.alloc ?_ (by first | (simp; done) | (simp; omega) | omega) _) | (with_reducible refine Below.setCell ?_ (by first | (simp; done) | (simp; omega) | omega) _) | (with_reducible refine Below.drew ?_) | (with_reducible refine Below.drewN ?_ _) | (with_reducible refine Below.step ?_ (by with_reducible assumption))))) HBD.out).mono ?_); rintro e w3 ⟨u1, u2, u3, u4, u5, u6, rfl, ho3, hb3⟩; obtain ⟨hc3, hf3⟩ := bcell hb3; have hz3 := Nat.lt_of_lt_of_le hz2 (bge hb3); have hz3a := Nat.lt_of_succ_lt hz3; have hz3b := Nat.lt_of_succ_lt hz3a; have HB3 := hd hb3; obtain ⟨A1, d1, A2, d2, A3, d3, A4, d4, A5, d5, A6, d6, rfl, rfl, rfl, rfl, rfl, rfl⟩ := ho3.slices; have HO3 := hd ho3; clear hb3 hx1 hx2 ho3))
  refine gen_wp (TkS w 8 st r1 r2 r3 r4 s (.slice A1 s.plan.fr.length d1) (.slice A2 s.plan.to.length d2) (.slice A3 s.plan.steps.length d3) (.slice A4 s.plan.before.length d4) (.slice A5 s.opn.length d5) (.slice A6 s.done.length d6)) (TkS.intro HB1.out HB2.out HB3.out HO3.out) ?_
  clear hc1 hf1 hz1 hz1a hz1b hc2 hf2 hz2 hz2a hz2b hc3 hf3 hz3 hz3a hz3b HB1 HB2 HB3 HO3 HF HW HA HT HS
  clear w1 w2 w3
  intro w4 h4
  have c0 := cell_of_row w4 _ 0 _ _ _ h4.state
  have c1 := cell_of_row w4 _ 1 _ _ _ h4.state
  have c2 := cell_of_row w4 _ 2 _ _ _ h4.state
  have c3 := cell_of_row w4 _ 3 _ _ _ h4.state
  have c4 := cell_of_row w4 _ 4 _ _ _ h4.state
  have c5 := cell_of_row w4 _ 5 _ _ _ h4.state
  have c6 := cell_of_row w4 _ 6 _ _ _ h4.state
  have c7 := cell_of_row w4 _ 7 _ _ _ h4.state
  have k0 := cell_of_row w4 _ 0 _ _ _ h4.rcd
  have k1 := cell_of_row w4 _ 1 _ _ _ h4.rcd
  have k2 := cell_of_row w4 _ 2 _ _ _ h4.rcd
  have k3 := cell_of_row w4 _ 3 _ _ _ h4.rcd
  have k4 := cell_of_row w4 _ 4 _ _ _ h4.rcd
  have k5 := cell_of_row w4 _ 5 _ _ _ h4.rcd
  have o0 := cell_of_row w4 _ 0 _ _ _ h4.out
  have o1 := cell_of_row w4 _ 1 _ _ _ h4.out
  have o2 := cell_of_row w4 _ 2 _ _ _ h4.out
  have o3 := cell_of_row w4 _ 3 _ _ _ h4.out
  have o4 := cell_of_row w4 _ 4 _ _ _ h4.out
  have o5 := cell_of_row w4 _ 5 _ _ _ h4.out
  have o6 := cell_of_row w4 _ 6 _ _ _ h4.out
  have o7 := cell_of_row w4 _ 7 _ _ _ h4.out
  have z0 := fun j => frozen_of_row w4 _ j _ _ h4.state
  have z2 := fun j => frozen_of_row w4 _ j _ _ h4.out
  have H4 := hd h4; clear h4
  have hmm2 := hmm.out
  have hx4 : w.heap.size + 3 ≤ w4.heap.size := H4.out.size
  have hkey : keyOf Tryd.prog 3 (.int .i64 s.phase) = some (.int .i64 s.phase) := keyI _ (by rcases hph.out with h | h <;> rw [h] <;> decide)
  have HKEY := hd hkey; clear hkey
  go_wp2_with (first
    | (at_lookup; refine wpList_lookup_own_int _ rfl _ _ 79 rfl 3 3 .i64 lawI Tryd.underlying79 Tryd.underlying3 (zeroI _) w4.heap.size 2 _ rfl HOWN6.out _ _ rfl HKEY.out ?_; intro c hat hwc; have HAT := hd (map_at _ _ hph.out hat); clear hat hwc)
    | (refine wpList_insert_own (H := Unit) _ rfl _ _ _ _ rfl 3 3 lawI Tryd.underlying79 (plainElem (H := Unit) Tryd.prog 3) w4.heap.size 1 _ rfl (HOWN5.out) (by unfold maxLen; omega) _ _ (.int .i64 2) rfl rfl (keyI 2 (by decide)) (.lit (.int .i64 5)) [] (plainElem_int Tryd.underlying3 (by decide)) ?_; intro w6 hown6 hgr6; have HOWN6 := hd hown6; have HGR := hd (grown_trans (below_grown _ HGR5.out) hgr6); clear hown6 hgr6; obtain ⟨e1, e2, e3, hb5, hz5⟩ := H4.out.later HGR.out (fun k hk => by injection hk with hk; omega); have c0 := cell_of_row w6 _ 0 _ _ _ e1; have c1 := cell_of_row w6 _ 1 _ _ _ e1; have c2 := cell_of_row w6 _ 2 _ _ _ e1; have c3 := cell_of_row w6 _ 3 _ _ _ e1; have c4 := cell_of_row w6 _ 4 _ _ _ e1; have c5 := cell_of_row w6 _ 5 _ _ _ e1; have c6 := cell_of_row w6 _ 6 _ _ _ e1; have c7 := cell_of_row w6 _ 7 _ _ _ e1; have o0 := cell_of_row w6 _ 0 _ _ _ e3; have o1 := cell_of_row w6 _ 1 _ _ _ e3; have o2 := cell_of_row w6 _ 2 _ _ _ e3; have o3 := cell_of_row w6 _ 3 _ _ _ e3; have o4 := cell_of_row w6 _ 4 _ _ _ e3; have o5 := cell_of_row w6 _ 5 _ _ _ e3; have o6 := cell_of_row w6 _ 6 _ _ _ e3; have o7 := cell_of_row w6 _ 7 _ _ _ e3; have z0 := fun j => frozen_of_row w6 _ j _ _ e1; have z2 := fun j => frozen_of_row w6 _ j _ _ e3; have HB := hd hb5; have HZ := hd hz5; clear e1 e2 e3 hb5 hz5)
    | (refine wpList_insert_own (H := Unit) _ rfl _ _ _ _ rfl 3 3 lawI Tryd.underlying79 (plainElem (H := Unit) Tryd.prog 3) w4.heap.size 0 (.map []) rfl (World.ownsMap_made _ _ _ _) (by unfold maxLen; omega) _ _ (.int .i64 3) rfl rfl (keyI 3 (by decide)) (.lit (.int .i64 4)) [] (plainElem_int Tryd.underlying3 (by decide)) ?_; intro w5 hown5 hgr5; have HOWN5 := hd hown5; have HGR5 := hd hgr5; clear hown5 hgr5))
  have q := set_grown w6 w.heap.size 1 (.int .i64 c)
  refine bodyPost_ret (v := .tuple #[.agg #[.int .i64 s.number, .int .i64 c, .slice A1 s.plan.fr.length d1, .slice A2 s.plan.to.length d2, .slice A3 s.plan.steps.length d3, .slice A4 s.plan.before.length d4, .slice A5 s.opn.length d5, .slice A6 s.done.length d6], .int .i64 0]) (by simp [results, Tryd.results8, go_sem, o0, o1, o2, o3, o4, o5, o6, o7]) rfl ?_
  have hg : w4.grownBy w6 (some w4.heap.size) := HGR.out
  have hst : s.step ⟨8, st, p⟩ = { s with phase := c } := by rw [HAT.out]; rfl
  have hbs := HBS.out
  rw [hst] at hbs ⊢
  have nb : ∀ g, (some w4.heap.size : Option Nat) = some g → g ≥ w4.heap.size := by intro g h; injection h with h; omega
  refine TkS.fin (s := { s with phase := c }) (base := w.heap.size) (Below.grown HB.out q HB.out.size (by intro k hk; injection hk with hk; omega)) (Nat.le_trans HZ.out q.size) ?_ ?_ ?_ hbs _ _ _ _ _ _ _ _ _ rfl
  · refine OPlan.kept ?_ q (by omega)
    exact ⟨own_new H4.out.own.plan.fr hg, own_new H4.out.own.plan.to hg, own_new H4.out.own.plan.steps hg, own_new H4.out.own.plan.before hg⟩
  · exact own_kept (own_new H4.out.own.opn hg) q (by omega)
  · exact own_kept (own_new H4.out.own.done hg) q (by omega)
end Go.Proofs.YtaamjpeehejafaaDoor
