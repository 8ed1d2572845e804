/- Contracts: State.Take, whatever the record. -/
import Derived.Test.YtaamjpeehejafaaDoorSaga13
set_option linter.unusedSimpArgs false
set_option linter.unusedVariables false
namespace Go.Proofs.YtaamjpeehejafaaDoor
open Go Go.RowKit

theorem take_c (v1 v2 v3 v4 v5 v6 r1 r2 r3 r4 : Value) (s : St) (r : Rec) (w : World) (hs : RSt w v1 v2 v3 v4 v5 v6 s) (hr : RPlan w r1 r2 r3 r4 r.plan) (hT : Tab w) (hb : r.plan.bd) (hbd : s.bd) (hbs : (s.step r).bd) (hnum : -1 ≤ s.number ∧ s.number ≤ 1099511627776) :
    Calls Tryd.prog 8 #[.agg #[.int .i64 s.number, .int .i64 s.phase, v1, v2, v3, v4, v5, v6], .agg #[.int .i64 r.kind, .int .i64 r.step, r1, r2, r3, r4]] w (TakePost w (s.take r).1 (s.take r).2) := by
  by_cases hf : r.formed = true
  · by_cases hw : when r.kind s.phase = true
    · by_cases ha : s.ask r = 0
      · have e : s.take r = (s.step r, 0) := by rw [St.take, if_neg (by rw [hf]; decide), if_neg (by rw [hw]; decide), if_pos ha]
        rw [e]
        obtain ⟨k, st, p⟩ := r
        obtain ⟨h1, h2⟩ := formed_kind hf
        simp only at h1 h2 hr hb hw
        obtain h | h | h | h | h | h | h | h : k = 1 ∨ k = 2 ∨ k = 3 ∨ k = 4 ∨ k = 5 ∨ k = 6 ∨ k = 7 ∨ k = 8 := by omega
        all_goals subst h
        · exact take1 v1 v2 v3 v4 v5 v6 r1 r2 r3 r4 s st p w hs hr hT hb hbd hf hw ha hbs hnum
        · exact take2 v1 v2 v3 v4 v5 v6 r1 r2 r3 r4 s st p w hs hr hT hb hbd hf hw ha hbs hnum
        · exact take3 v1 v2 v3 v4 v5 v6 r1 r2 r3 r4 s st p w hs hr hT hb hbd hf hw ha hbs hnum
        · exact take4 v1 v2 v3 v4 v5 v6 r1 r2 r3 r4 s st p w hs hr hT hb hbd hf hw ha hbs hnum
        · exact take5 v1 v2 v3 v4 v5 v6 r1 r2 r3 r4 s st p w hs hr hT hb hbd hf hw ha hbs hnum
        · exact take6 v1 v2 v3 v4 v5 v6 r1 r2 r3 r4 s st p w hs hr hT hb hbd hf hw ha hbs hnum
        · exact take7 v1 v2 v3 v4 v5 v6 r1 r2 r3 r4 s st p w hs hr hT hb hbd hf hw ha hbs hnum
        · exact take8 v1 v2 v3 v4 v5 v6 r1 r2 r3 r4 s st p w hs hr hT hb hbd hf hw ha hbs hnum
      · have e : s.take r = (St.zero, s.ask r) := by rw [St.take, if_neg (by rw [hf]; decide), if_neg (by rw [hw]; decide), if_neg ha]
        rw [e]
        exact take_err v1 v2 v3 v4 v5 v6 r1 r2 r3 r4 s r w hs hr hT hb hf hw ha
    · have hw' : when r.kind s.phase = false := by simpa using hw
      have e : s.take r = (St.zero, 70) := by rw [St.take, if_neg (by rw [hf]; decide), if_pos hw']
      rw [e]
      exact take_when v1 v2 v3 v4 v5 v6 r1 r2 r3 r4 s r w hr hf hw'
  · have hf' : r.formed = false := by simpa using hf
    have e : s.take r = (St.zero, 12) := by rw [St.take, if_pos hf']
    rw [e]
    exact take_form v1 v2 v3 v4 v5 v6 r1 r2 r3 r4 s r w hr hf'
end Go.Proofs.YtaamjpeehejafaaDoor
