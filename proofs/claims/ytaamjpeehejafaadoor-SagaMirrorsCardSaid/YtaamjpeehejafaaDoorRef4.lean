/- Contracts: saga.Replay. -/
import Derived.Test.YtaamjpeehejafaaDoorRef3
import Derived.Deep.Cut
set_option linter.unusedSimpArgs false
set_option linter.unusedVariables false
namespace Go.Proofs.YtaamjpeehejafaaDoor
open Go Go.RowKit

/-- what k records may have made -/
structure St.fits (s : St) (k : Nat) : Prop where
  plan : s.plan.bd
  lo : 0 ≤ s.number
  hi : s.number ≤ k
  opn : s.opn.length ≤ k
  done : s.done.length ≤ k
theorem St.fits.zero : St.zero.fits 0 := ⟨⟨by decide, by decide, by decide, by decide⟩, by decide, by decide, by decide, by decide⟩
theorem St.fits.mono {s : St} {k k' : Nat} (h : s.fits k) (hk : k ≤ k') : s.fits k' := ⟨h.plan, h.lo, by have := h.hi; omega, by have := h.opn; omega, by have := h.done; omega⟩
theorem St.fits.bd {s : St} {k : Nat} (h : s.fits k) (hk : k ≤ 1099511627776) : s.bd := ⟨h.plan, by have := h.opn; omega, by have := h.done; omega⟩
theorem St.fits.step {s : St} {k : Nat} (h : s.fits k) (r : Rec) (hr : r.plan.bd) : (s.step r).fits (k + 1) := by
  have h1 := h.lo; have h2 := h.hi; have h3 := h.opn; have h4 := h.done
  have h5 := without_le s.opn r.step
  have h6 := without_le s.done r.step
  unfold St.step
  split
  · exact ⟨hr, by simp; omega, by simp; omega, by simp, by simp⟩
  split
  · exact ⟨h.plan, h1, by simp; omega, by simp; omega, by simp; omega⟩
  split
  · exact ⟨h.plan, h1, by simp; omega, by simp; omega, by simp; omega⟩
  split
  · exact ⟨h.plan, h1, by simp; omega, by simp; omega, by simp; omega⟩
  split
  · exact ⟨h.plan, h1, by simp; omega, by simp; omega, by simp; omega⟩
  split
  · exact ⟨h.plan, h1, by simp; omega, by simp; omega, by simp; omega⟩
  · exact ⟨h.plan, h1, by simp; omega, by simp; omega, by simp; omega⟩
theorem St.take_ok {s : St} {r : Rec} (h : (s.take r).2 = 0) : s.take r = (s.step r, 0) := by
  unfold St.take at h ⊢
  split at h
  · simp at h
  split at h
  · simp at h
  split at h
  · rename_i a b c; rw [if_neg a, if_neg b, if_pos c]
  · rename_i a b c; exact absurd h c
/-- k records of the list are taken, each without an error -/
inductive Ran (rs : List Rec) : Nat → St → Prop
  | zero : Ran rs 0 St.zero
  | next {k : Nat} {s : St} (h : k < rs.length) : Ran rs k s → (s.take rs[k]).2 = 0 → Ran rs (k + 1) (s.take rs[k]).1
theorem Ran.fits {rs : List Rec} (hr : ∀ r ∈ rs, r.plan.bd) {k : Nat} {s : St} (h : Ran rs k s) : s.fits k := by
  induction h with
  | zero => exact St.fits.zero
  | next hk _ ht ih => rw [St.take_ok ht]; exact ih.step _ (hr _ (List.getElem_mem hk))
def ErrAt (rs : List Rec) (k : Nat) (s : St) (er : Int) : Prop := ∃ h : k < rs.length, er = (s.take rs[k]).2 ∧ er ≠ 0
def ReplayPost (w : World) (rs : List Rec) (e : Ending) (w' : World) : Prop :=
  ∃ (k : Nat) (s : St) (er : Int) (u1 u2 u3 u4 u5 u6 : Value), k ≤ rs.length ∧ Ran rs k s ∧ (k = rs.length ∧ er = 0 ∨ ErrAt rs k s er) ∧
    e = .returned (.tuple #[.agg #[.int .i64 s.number, .int .i64 s.phase, u1, u2, u3, u4, u5, u6], .int .i64 k, .int .i64 er]) ∧ RowSt w' w.heap.size u1 u2 u3 u4 u5 u6 s ∧ Below w.heap.size w w'
/-- the state's box -/
def BoxSt (w0 : World) (s : St) (wr : World) : Prop := ∃ A1 c1 A2 c2 A3 c3 A4 c4 A5 c5 A6 c6, wr.heap[w0.heap.size]? = some (.cells #[.int .i64 s.number, .int .i64 s.phase, .slice A1 s.plan.fr.length c1, .slice A2 s.plan.to.length c2, .slice A3 s.plan.steps.length c3, .slice A4 s.plan.before.length c4, .slice A5 s.opn.length c5, .slice A6 s.done.length c6] 31 (0, 0)) ∧
    RowSt wr (w0.heap.size + 1) (.slice A1 s.plan.fr.length c1) (.slice A2 s.plan.to.length c2) (.slice A3 s.plan.steps.length c3) (.slice A4 s.plan.before.length c4) (.slice A5 s.opn.length c5) (.slice A6 s.done.length c6) s
structure RepS (w0 : World) (b7 : Nat) (s s' : St) (A1 : Option Addr) (d1 : Nat) (A2 : Option Addr) (d2 : Nat) (A3 : Option Addr) (d3 : Nat) (A4 : Option Addr) (d4 : Nat) (A5 : Option Addr) (d5 : Nat) (A6 : Option Addr) (d6 : Nat) (E1 : Option Addr) (g1 : Nat) (E2 : Option Addr) (g2 : Nat) (E3 : Option Addr) (g3 : Nat) (E4 : Option Addr) (g4 : Nat) (E5 : Option Addr) (g5 : Nat) (E6 : Option Addr) (g6 : Nat) (W : World) : Prop where
  hg : W.heap[w0.heap.size]? = some (.cells #[.int .i64 s.number, .int .i64 s.phase, .slice A1 s.plan.fr.length d1, .slice A2 s.plan.to.length d2, .slice A3 s.plan.steps.length d3, .slice A4 s.plan.before.length d4, .slice A5 s.opn.length d5, .slice A6 s.done.length d6] 31 (0, 0))
  h7 : W.heap[b7]? = some (.cells #[.int .i64 s'.number, .int .i64 s'.phase, .slice E1 s'.plan.fr.length g1, .slice E2 s'.plan.to.length g2, .slice E3 s'.plan.steps.length g3, .slice E4 s'.plan.before.length g4, .slice E5 s'.opn.length g5, .slice E6 s'.done.length g6] 31 (0, 0))
  old : RowSt W (w0.heap.size + 1) (.slice A1 s.plan.fr.length d1) (.slice A2 s.plan.to.length d2) (.slice A3 s.plan.steps.length d3) (.slice A4 s.plan.before.length d4) (.slice A5 s.opn.length d5) (.slice A6 s.done.length d6) s
  new : RowSt W (w0.heap.size + 1) (.slice E1 s'.plan.fr.length g1) (.slice E2 s'.plan.to.length g2) (.slice E3 s'.plan.steps.length g3) (.slice E4 s'.plan.before.length g4) (.slice E5 s'.opn.length g5) (.slice E6 s'.done.length g6) s'
  below : Below w0.heap.size w0 W
  lt : w0.heap.size < b7
  lt7 : b7 < W.heap.size
theorem BoxSt.put {w0 W : World} {s : St} {y0 y1 y2 y3 y4 y5 y6 y7 : Value} {base : Nat} {E1 E2 E3 E4 E5 E6 : Option Addr} {g1 g2 g3 g4 g5 g6 : Nat} (hg : W.heap[w0.heap.size]? = some (.cells #[y0, y1, y2, y3, y4, y5, y6, y7] 31 (0, 0)))
    (hrow : RowSt W base (.slice E1 s.plan.fr.length g1) (.slice E2 s.plan.to.length g2) (.slice E3 s.plan.steps.length g3) (.slice E4 s.plan.before.length g4) (.slice E5 s.opn.length g5) (.slice E6 s.done.length g6) s) (hlt : w0.heap.size < base) :
    BoxSt w0 s ((((((((W.setCell ⟨w0.heap.size, 0, none⟩ (.int .i64 s.number)).setCell ⟨w0.heap.size, 1, none⟩ (.int .i64 s.phase)).setCell ⟨w0.heap.size, 2, none⟩ (.slice E1 s.plan.fr.length g1)).setCell ⟨w0.heap.size, 3, none⟩ (.slice E2 s.plan.to.length g2)).setCell ⟨w0.heap.size, 4, none⟩ (.slice E3 s.plan.steps.length g3)).setCell ⟨w0.heap.size, 5, none⟩ (.slice E4 s.plan.before.length g4)).setCell ⟨w0.heap.size, 6, none⟩ (.slice E5 s.opn.length g5)).setCell ⟨w0.heap.size, 7, none⟩ (.slice E6 s.done.length g6)) :=
  ⟨E1, g1, E2, g2, E3, g3, E4, g4, E5, g5, E6, g6, eight_same W w0.heap.size y0 y1 y2 y3 y4 y5 y6 y7 _ _ _ _ _ _ _ _ _ hg, (hrow.kept (eight_grown W w0.heap.size _ _ _ _ _ _ _ _) hlt).mono hlt⟩
theorem Tab.grown {w w' : World} {B : Nat} (h : Tab w) (hb : Below B w w') (hp : 0 < B) : Tab w' := h.below hb hp
set_option maxRecDepth 100000 in
set_option maxHeartbeats 2000000 in
theorem replay_c (v : Value) (rs : List Rec) (vs : List PV) (w : World) (hs : RRecs w v rs vs) (hT : Tab w) (hbd : ∀ r ∈ rs, r.plan.bd) (hl : rs.length ≤ 1099511627776) :
    Calls Tryd.prog 22 #[v] w (ReplayPost w rs) := by
  obtain ⟨A, c, rfl⟩ := hs.cells.len
  have HS := hd hs; have HT := hd hT; have HBD := hd hbd
  clear hs hT hbd
  go_enter Tryd.func22, Tryd.ntmps22
  go_wp2
  go_loopw [5, 6, 7, 8, 11] (fun _ _ _ _ i wr => ∃ (k : Nat) (s : St), k ≤ rs.length ∧ i = .int .i64 k ∧ Hid (Ran rs k s) ∧ Hid (BoxSt w s wr) ∧ Hid (Below w.heap.size w wr) ∧ w.heap.size < wr.heap.size) (fun _ _ _ _ i _ => rs.length - (intOf i).toNat)
  case atStart => exact ⟨0, St.zero, Nat.zero_le _, rfl, Ran.zero, ⟨_, _, _, _, _, _, _, _, _, _, _, _, heap_alloc_new _ _, RowSt.zero _ _⟩, (by repeat (first | (with_reducible refine hd ?_) | (with_reducible exact Below.refl _ _) | (with_reducible assumption) | (with_reducible refine Below.alloc ?_ (by first | (simp; done) | (simp; omega) | omega) _) | (with_reducible refine Below.setCell ?_ (by first | (simp; done) | (simp; omega) | omega) _) | (with_reducible refine Below.drew ?_) | (with_reducible refine Below.drewN ?_ _) | (with_reducible refine Below.step ?_ (by with_reducible assumption)))), by simp⟩
  case round =>
    obtain ⟨k, s, hk, rfl, hran, hbox, hB, hz⟩ := hrel
    obtain ⟨A1, d1, A2, d2, A3, d3, A4, d4, A5, d5, A6, d6, hg, hrow⟩ := hbox.out
    have hfit := hran.out.fits HBD.out
    have s0 := cell_of_row wr _ 0 _ _ _ hg
    have s1 := cell_of_row wr _ 1 _ _ _ hg
    have s2 := cell_of_row wr _ 2 _ _ _ hg
    have s3 := cell_of_row wr _ 3 _ _ _ hg
    have s4 := cell_of_row wr _ 4 _ _ _ hg
    have s5 := cell_of_row wr _ 5 _ _ _ hg
    have s6 := cell_of_row wr _ 6 _ _ _ hg
    have s7 := cell_of_row wr _ 7 _ _ _ hg
    have z0 := fun j => frozen_of_row wr _ j _ _ hg
    have HG := hd hg; have HROW := hd hrow; have HF := hd hfit
    clear hg hrow hfit hbox
    by_cases hlt : k < rs.length
    · obtain ⟨b, off, B1, e1, B2, e2, B3, e3, B4, e4, rfl, hbl, c0, c1, c2, c3, c4, c5, hp⟩ := (HS.out.below hB.out).at k hlt
      have hpb := HBD.out rs[k] (List.getElem_mem hlt)
      have hnx : (s.take rs[k]).2 = 0 → Ran rs (k + 1) (s.take rs[k]).1 := fun h => Ran.next hlt hran.out h
      have hst : ∀ er, er = (s.take rs[k]).2 → er ≠ 0 → ErrAt rs k s er := fun er h1 h2 => ⟨hlt, h1, h2⟩
      generalize hr : rs[k] = r at c0 c1 c2 c3 c4 c5 hp hpb hnx hst
      have HERR := hd hst
      have HPB := hd hpb
      have HNX := hd hnx
      clear hr hpb hnx hst
      have HP := hd hp
      have HST := hd (HF.out.step r HPB.out)
      have hbx := HF.out.bd (by omega)
      have hby := HST.out.bd (by omega)
      have hnum : -1 ≤ s.number ∧ s.number ≤ 1099511627776 := by have := HF.out.lo; have := HF.out.hi; omega
      have HBX := hd hbx; have HBY := hd hby; have HNUM := hd hnum
      clear hp hbx hby hnum
      have HTK : Hid (∀ w', RSt w' (.slice A1 s.plan.fr.length d1) (.slice A2 s.plan.to.length d2) (.slice A3 s.plan.steps.length d3) (.slice A4 s.plan.before.length d4) (.slice A5 s.opn.length d5) (.slice A6 s.done.length d6) s → RPlan w' (.slice B1 r.plan.fr.length e1) (.slice B2 r.plan.to.length e2) (.slice B3 r.plan.steps.length e3) (.slice B4 r.plan.before.length e4) r.plan → Tab w' → Calls Tryd.prog 8 #[.agg #[.int .i64 s.number, .int .i64 s.phase, .slice A1 s.plan.fr.length d1, .slice A2 s.plan.to.length d2, .slice A3 s.plan.steps.length d3, .slice A4 s.plan.before.length d4, .slice A5 s.opn.length d5, .slice A6 s.done.length d6], .agg #[.int .i64 r.kind, .int .i64 r.step, .slice B1 r.plan.fr.length e1, .slice B2 r.plan.to.length e2, .slice B3 r.plan.steps.length e3, .slice B4 r.plan.before.length e4]] w' (TakePost w' (s.take r).1 (s.take r).2)) :=
        fun w' h1 h2 h3 => take_c _ _ _ _ _ _ _ _ _ _ s r w' h1 h2 h3 HPB.out HBX.out HBY.out HNUM.out
      clear HST HBY HNUM
      have HTK2 := HTK.out; have HNX2 := HNX.out; have HERR2 := HERR.out
      clear HTK HNX HERR
      generalize s.take r = tk at HTK2 HNX2 HERR2
      obtain ⟨s', er⟩ := tk
      simp only at HTK2 HNX2 HERR2
      have HTK := hd HTK2; have HNX := hd HNX2; have HERR := hd HERR2
      clear HTK2 HNX2 HERR2
      have hx0 := hB.out
      have hzz := hx0.size
      go_upto_region 5 with (go_at_call 8; (with_reducible refine (HTK.out _ ((HROW.out.reads HBX.out).below (by repeat (first | (with_reducible refine hd ?_) | (with_reducible exact Below.refl _ _) | (with_reducible assumption) | (with_reducible refine Below.alloc ?_ (by first | (simp; done) | (simp; omega) | omega) _) | (with_reducible refine Below.setCell ?_ (by first | (simp; done) | (simp; omega) | omega) _) | (with_reducible refine Below.drew ?_) | (with_reducible refine Below.drewN ?_ _) | (with_reducible refine Below.step ?_ (by with_reducible assumption))))) (HP.out.below (by repeat (first | (with_reducible refine hd ?_) | (with_reducible exact Below.refl _ _) | (with_reducible assumption) | (with_reducible refine Below.alloc ?_ (by first | (simp; done) | (simp; omega) | omega) _) | (with_reducible refine Below.setCell ?_ (by first | (simp; done) | (simp; omega) | omega) _) | (with_reducible refine Below.drew ?_) | (with_reducible refine Below.drewN ?_ _) | (with_reducible refine Below.step ?_ (by with_reducible assumption))))) (HT.out.below (B := w.heap.size) (by repeat (first | (with_reducible refine hd ?_) | (with_reducible exact Below.refl _ _) | (with_reducible assumption) | (with_reducible refine Below.alloc ?_ (by first | (simp; done) | (simp; omega) | omega) _) | (with_reducible refine Below.setCell ?_ (by first | (simp; done) | (simp; omega) | omega) _) | (with_reducible refine Below.drew ?_) | (with_reducible refine Below.drewN ?_ _) | (with_reducible refine Below.step ?_ (by with_reducible assumption)))) HT.out.pos)).mono ?_); rintro e w2 ⟨u1, u2, u3, u4, u5, u6, rfl, hrow2, hb2⟩; obtain ⟨hc2, hf2⟩ := bcell hb2; have hz2 := bgt hb2; have HB2 := hd hb2; obtain ⟨E1, g1, E2, g2, E3, g3, E4, g4, E5, g5, E6, g6, rfl, rfl, rfl, rfl, rfl, rfl⟩ := hrow2.slices; have HROW2 := hd hrow2; clear hb2 hrow2)
      have hz3 : w.heap.size < w2.heap.size := by omega
      have hbo := Below.trans (Below.alloc hx0 hzz _) (HB2.out.mono (by simp; omega))
      have hs2 : RepS w w2.heap.size s s' A1 d1 A2 d2 A3 d3 A4 d4 A5 d5 A6 d6 E1 g1 E2 g2 E3 g3 E4 g4 E5 g5 E6 g6 (w2.alloc (.cells #[.int .i64 s'.number, .int .i64 s'.phase, .slice E1 s'.plan.fr.length g1, .slice E2 s'.plan.to.length g2, .slice E3 s'.plan.steps.length g3, .slice E4 s'.plan.before.length g4, .slice E5 s'.opn.length g5, .slice E6 s'.done.length g6] 31 (0, 0))) :=
        ⟨(Below.heap_alloc _ _ _ hz3).trans ((HB2.out.block _ (by simp; omega)).trans ((Below.heap_alloc _ _ _ (by omega)).trans HG.out)), heap_alloc_new _ _, (HROW.out.below (Below.trans (Below.box _ _) (HB2.out.mono (by simp)))).below (Below.box _ _), (HROW2.out.below (Below.box _ _)).mono (by simp; omega), Below.alloc hbo (by omega) _, hz3, by simp⟩
      refine gen_wp (RepS w w2.heap.size s s' A1 d1 A2 d2 A3 d3 A4 d4 A5 d5 A6 d6 E1 g1 E2 g2 E3 g3 E4 g4 E5 g5 E6 g6) hs2 ?_
      have HRAN := hran
      clear hs2 hbo hz3 hx0 hzz hc2 hf2 hz2 HB2 HROW2 HROW HG s0 s1 s2 s3 s4 s5 s6 s7 z0 c0 c1 c2 c3 c4 c5 HTK HP HBX HPB HF
      generalize w2.heap.size = b7
      clear w2
      intro W hW
      have t0 := cell_of_row W _ 0 _ _ _ hW.hg
      have t1 := cell_of_row W _ 1 _ _ _ hW.hg
      have t2 := cell_of_row W _ 2 _ _ _ hW.hg
      have t3 := cell_of_row W _ 3 _ _ _ hW.hg
      have t4 := cell_of_row W _ 4 _ _ _ hW.hg
      have t5 := cell_of_row W _ 5 _ _ _ hW.hg
      have t6 := cell_of_row W _ 6 _ _ _ hW.hg
      have t7 := cell_of_row W _ 7 _ _ _ hW.hg
      have n0 := cell_of_row W _ 0 _ _ _ hW.h7
      have n1 := cell_of_row W _ 1 _ _ _ hW.h7
      have n2 := cell_of_row W _ 2 _ _ _ hW.h7
      have n3 := cell_of_row W _ 3 _ _ _ hW.h7
      have n4 := cell_of_row W _ 4 _ _ _ hW.h7
      have n5 := cell_of_row W _ 5 _ _ _ hW.h7
      have n6 := cell_of_row W _ 6 _ _ _ hW.h7
      have n7 := cell_of_row W _ 7 _ _ _ hW.h7
      have zz := fun j => frozen_of_row W _ j _ _ hW.hg
      have hzW : w.heap.size < W.heap.size := Nat.lt_trans hW.lt hW.lt7
      have HW := hd hW
      clear hW
      by_cases he : er = 0
      · subst he
        go_wp2
        go_roundw
        case rel =>
          have q := eight_grown W w.heap.size (.int .i64 s'.number) (.int .i64 s'.phase) (.slice E1 s'.plan.fr.length g1) (.slice E2 s'.plan.to.length g2) (.slice E3 s'.plan.steps.length g3) (.slice E4 s'.plan.before.length g4) (.slice E5 s'.opn.length g5) (.slice E6 s'.done.length g6)
          exact ⟨k + 1, s', by omega, by go_num, HNX.out rfl, BoxSt.put HW.out.hg HW.out.new (by omega), Below.grown HW.out.below q (by omega) (by intro k hk; injection hk with hk; omega), Nat.lt_of_lt_of_le hzW q.size⟩
        case measure => simp [intOf]; omega
      · have hb1 : (er == 0) = false := by simpa using he
        have hb2 : (er != 0) = true := by simpa using he
        have HE := hd he
        clear he
        go_wp2
        refine bodyPost_ret (v := .tuple #[.agg #[.int .i64 s.number, .int .i64 s.phase, .slice A1 s.plan.fr.length d1, .slice A2 s.plan.to.length d2, .slice A3 s.plan.steps.length d3, .slice A4 s.plan.before.length d4, .slice A5 s.opn.length d5, .slice A6 s.done.length d6], .int .i64 k, .int .i64 er]) (by simp [results, Tryd.results22, go_sem, t0, t1, t2, t3, t4, t5, t6, t7, hzW]) rfl ?_
        have q := eight_grown W w.heap.size (.int .i64 s.number) (.int .i64 s.phase) (.slice A1 s.plan.fr.length d1) (.slice A2 s.plan.to.length d2) (.slice A3 s.plan.steps.length d3) (.slice A4 s.plan.before.length d4) (.slice A5 s.opn.length d5) (.slice A6 s.done.length d6)
        exact ⟨k, s, er, _, _, _, _, _, _, hk, HRAN.out, .inr (HERR.out _ rfl HE.out), rfl, (HW.out.old.kept q (by omega)).mono (by omega), Below.grown HW.out.below q (by omega) (by intro k hk; injection hk with hk; omega)⟩
    · have : k = rs.length := by omega
      subst this
      go_wp2
      refine bodyPost_ret (v := .tuple #[.agg #[.int .i64 s.number, .int .i64 s.phase, .slice A1 s.plan.fr.length d1, .slice A2 s.plan.to.length d2, .slice A3 s.plan.steps.length d3, .slice A4 s.plan.before.length d4, .slice A5 s.opn.length d5, .slice A6 s.done.length d6], .int .i64 rs.length, .int .i64 0]) (by simp [results, Tryd.results22, go_sem, s0, s1, s2, s3, s4, s5, s6, s7]) rfl ?_
      have q := fun W y0 y1 y2 y3 y4 y5 y6 y7 => eight_grown W w.heap.size y0 y1 y2 y3 y4 y5 y6 y7
      exact ⟨rs.length, s, 0, _, _, _, _, _, _, Nat.le_refl _, hran.out, .inl ⟨rfl, rfl⟩, rfl, (HROW.out.kept (q _ _ _ _ _ _ _ _ _) (by omega)).mono (by omega), Below.grown hB.out (q _ _ _ _ _ _ _ _ _) (by omega) (by intro k hk; injection hk with hk; omega)⟩
end Go.Proofs.YtaamjpeehejafaaDoor
