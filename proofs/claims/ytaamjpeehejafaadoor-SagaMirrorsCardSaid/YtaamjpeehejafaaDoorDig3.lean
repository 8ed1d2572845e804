/- Contract: digraph.Graph.Order. -/
import Derived.Test.YtaamjpeehejafaaDoorDig2
import Derived.Test.YtaamjpeehejafaaDoorTz
import Derived.ScopeJumps
import Derived.WalkMore
import Derived.Deep.RegionLaw
import Derived.Deep.AppendLies
set_option linter.unusedSimpArgs false
set_option linter.unusedVariables false
namespace Go.Proofs.YtaamjpeehejafaaDoor
open Go Go.RowKit

def oRun (es : List (Int × Int)) (n : Nat) : Nat → BitVec 64 → List Int → List Int
  | 0, _, o => o
  | f + 1, s, o => if readyTo es s n = 0#64 then o else oRun es n f (s ||| one (low (readyTo es s n))) (o ++ [(low (readyTo es s n) : Int)])
def order (n : Nat) (es : List (Int × Int)) : List Int := oRun es n (n + 1) 0#64 []
def orderErr (n : Nat) (es : List (Int × Int)) : Int := if (order n es).length < n then 21 else 0

def OrderPost (w : World) (er : Int) (l : List Int) (e : Ending) (w' : World) : Prop := ∃ v, e = .returned (.tuple #[v, .int .i64 er]) ∧ w'.ownsRow w.heap.size 3 1 v l.length (ints l) ∧ Below w.heap.size w w'

def OrderFin (w : World) (n : Nat) (es : List (Int × Int)) (e : Ending) (w' : World) : Prop := OrderPost w (orderErr n es) (if orderErr n es = 0 then order n es else []) e w'
set_option maxRecDepth 100000 in
set_option maxHeartbeats 1000000 in
theorem order_bad (n : Int) (v : Value) (es : List (Int × Int)) (w : World) (hs : Sl w v es.length (pairs es)) (hr : chk n es ≠ 0) :
    Calls Tryd.prog 76 #[.agg #[.int .i64 n, v]] w (OrderPost w (chk n es) []) := by
  have hr' : (chk n es == 0) = false := by simpa using hr
  have hr2 : (chk n es != 0) = true := by simpa using hr
  have HS := hd hs; clear hs
  go_enter Tryd.func76, Tryd.ntmps76
  go_wp2
  go_step3
  go_wp2_with (go_at_call 86; (with_reducible refine (check_c n v es _ (HS.out.below (by repeat (first | (with_reducible refine hd ?_) | (with_reducible exact Below.refl _ _) | (with_reducible assumption) | (with_reducible refine Below.alloc ?_ (by first | (simp; done) | (simp; omega) | omega) _) | (with_reducible refine Below.setCell ?_ (by first | (simp; done) | (simp; omega) | omega) _) | (with_reducible refine Below.drew ?_) | (with_reducible refine Below.drewN ?_ _) | (with_reducible refine Below.step ?_ (by with_reducible assumption)))))).mono ?_); rintro e w1 ⟨rfl, hb1⟩)
  rw [Exit.noGoto_ret]
  go_ret2
  exact ⟨_, rfl, World.ownsRow_nil _ _ _ _, (by repeat (first | (with_reducible refine hd ?_) | (with_reducible exact Below.refl _ _) | (with_reducible assumption) | (with_reducible refine Below.alloc ?_ (by first | (simp; done) | (simp; omega) | omega) _) | (with_reducible refine Below.setCell ?_ (by first | (simp; done) | (simp; omega) | omega) _) | (with_reducible refine Below.drew ?_) | (with_reducible refine Below.drewN ?_ _) | (with_reducible refine Below.step ?_ (by with_reducible assumption))))⟩

theorem nodup_le : ∀ (n : Nat) (o : List Int), o.Nodup → (∀ x ∈ o, 0 ≤ x ∧ x < (n : Int)) → o.length ≤ n
  | 0, o, _, h => by
    cases o with
    | nil => simp
    | cons x r => have := h x (by simp); omega
  | n + 1, o, hd, h => by
    by_cases hm : (n : Int) ∈ o
    · have h1 := nodup_le n (o.erase n) (hd.erase _) (fun x hx => by
        have h2 := (List.Nodup.mem_erase_iff hd).1 hx
        have := h x h2.2
        have := h2.1
        omega)
      rw [List.length_erase_of_mem hm] at h1
      omega
    · have h1 := nodup_le n o hd (fun x hx => by
        have := h x hx
        have : x ≠ n := fun e => hm (e ▸ hx)
        omega)
      omega

theorem bit_or_one (s : BitVec 64) (k j : Nat) (hk : k < 64) : bit (s ||| one k) j = (bit s j || decide (j = k)) := by
  simp only [bit_def, BitVec.getLsbD_or, one_get _ _ hk]
theorem readyTo_bit (es : List (Int × Int)) (s : BitVec 64) : ∀ (m : Nat), m ≤ 64 → ∀ j, bit (readyTo es s m) j = (decide (j < m) && mayNext es s j)
  | 0, _, j => by simp [readyTo, bit_def]
  | m + 1, hm, j => by
    have ih := readyTo_bit es s m (by omega) j
    rw [readyTo]
    cases hn : mayNext es s m with
    | true =>
      rw [if_pos rfl, bit_or_one _ _ _ (by omega), ih]
      by_cases h : j = m
      · subst h; simp [hn]
      · have : (j < m + 1) = (j < m) := by simp; omega
        simp [h, this]
    | false =>
      rw [if_neg (by simp), ih]
      by_cases h : j = m
      · subst h; simp [hn]
      · have : (j < m + 1) = (j < m) := by simp; omega
        simp [this]
theorem low_ready {es : List (Int × Int)} {s : BitVec 64} {n : Nat} (hn : n ≤ 64) (h : readyTo es s n ≠ 0#64) : low (readyTo es s n) < n ∧ bit s (low (readyTo es s n)) = false ∧ mayNext es s (low (readyTo es s n)) = true := by
  have h1 := (low_spec _ h).1
  rw [readyTo_bit es s n hn] at h1
  simp only [Bool.and_eq_true, decide_eq_true_eq] at h1
  refine ⟨h1.1, ?_, h1.2⟩
  have := h1.2
  simp only [mayNext, Bool.and_eq_true, Bool.not_eq_true'] at this
  exact this.1

/-- What holds whenever the label is come to. -/
structure OAt (w : World) (v : Value) (n : Nat) (es : List (Int × Int)) (wr : World) (f : Nat) (s : BitVec 64) (o : List Int) (v5 : Value) : Prop where
  below : Below (w.alloc (.cells #[.int .i64 n, v] 131)).heap.size (w.alloc (.cells #[.int .i64 n, v] 131)) wr
  own : wr.ownsRow (w.heap.size + 1) 3 1 v5 o.length (ints o)
  run : oRun es n f s o = order n es
  len : o.length + f = n + 1
  nodup : o.Nodup
  lt : ∀ x ∈ o, 0 ≤ x ∧ x < n ∧ bit s x.toNat = true
def OrderJ (w : World) (v : Value) (n : Nat) (es : List (Int × Int)) (a : Act) (wr : World) : Prop :=
  ∃ f s o v5 u7 u8 u14 u15 u16 u17 u18 u19 u20 u21 u22 u23 u24 u25 u26 u27 u28, OAt w v n es wr f s o v5 ∧
    a = { tmps := #[.agg #[.int .i64 n, v], .pointer (some ⟨w.heap.size, 0, none⟩), .slice none 0 0, .int .i64 0, .int .i64 0, v5, .int .u64 (nb s : Int), u7, u8, .agg #[.int .i64 n, v], .int .i64 0, .int .i64 0, .bool false, undef, u14, u15, u16, u17, u18, u19, u20, u21, u22, u23, u24, u25, u26, u27, u28, undef, undef, undef, undef, undef, undef], defers := [] }
def orderM (n : Nat) (a : Act) (_ : World) : Nat := match a.tmps.getD 5 undef with | .slice _ k _ => n + 1 - k | _ => 0

theorem ready_z (n : Nat) (v : Value) (es : List (Int × Int)) (w : World) (hs : Sl w v es.length (pairs es)) (hr : InR n es) :
    Calls Tryd.prog 87 #[.agg #[.int .i64 n, v], .int .u64 0] w fun e w' => e = .returned (.int .u64 (nb (readyTo es 0#64 n) : Int)) ∧ Below w.heap.size w w' := by
  have := ready_c n v es 0#64 w hs hr
  rwa [nb_zero] at this
theorem nb_or0 (b : BitVec 64) : bits .or .u64 0 (nb b : Int) = (nb b : Int) := by
  have := nb_or 0#64 b
  rw [nb_zero, BitVec.zero_or] at this
  exact this
set_option maxRecDepth 100000 in
set_option maxHeartbeats 1000000 in
theorem order_good (n : Nat) (v : Value) (es : List (Int × Int)) (w : World) (hs : Sl w v es.length (pairs es)) (hr : chk n es = 0) (hin : InR n es) (hT : Tab w) :
    Calls Tryd.prog 76 #[.agg #[.int .i64 n, v]] w (OrderFin w n es) := by
  have hn := hin.n64
  obtain ⟨i, hi, hz0, hz1, hz2⟩ := info_parts (show (Tryd.prog.info? 3).map (fun i => (i.zero, i.size, i.bytes)) = some (some (.int .i64 0), 1, 8) by kernel_rfl)
  have HS := hd hs; have HR := hd hin; have HT := hd hT
  clear hs hin hT
  go_enter Tryd.func76, Tryd.ntmps76
  go_wp2
  refine wp_scope_jumps 0 (OrderJ w v n es) (orderM n) rfl ?_ ?_
  · go_wp2_with (go_at_call 86; (with_reducible refine (check_c n v es _ (HS.out.below (by repeat (first | (with_reducible refine hd ?_) | (with_reducible exact Below.refl _ _) | (with_reducible assumption) | (with_reducible refine Below.alloc ?_ (by first | (simp; done) | (simp; omega) | omega) _) | (with_reducible refine Below.setCell ?_ (by first | (simp; done) | (simp; omega) | omega) _) | (with_reducible refine Below.drew ?_) | (with_reducible refine Below.drewN ?_ _) | (with_reducible refine Below.step ?_ (by with_reducible assumption)))))).mono ?_); rintro e wr ⟨rfl, hb1⟩; rw [hr])
    go_step3
    obtain ⟨f, hf⟩ : ∃ f, f = n + 1 := ⟨_, rfl⟩
    have hat : OAt w v n es wr f 0#64 [] (.slice none 0 0) := ⟨hb1, World.ownsRow_nil _ _ _ _, by rw [hf]; rfl, by simp [hf], by simp, by simp⟩
    have HF := hd hf
    clear hf hb1
    have hbw : Below w.heap.size w wr := by have := hat.below; exact (by repeat (first | (with_reducible refine hd ?_) | (with_reducible exact Below.refl _ _) | (with_reducible assumption) | (with_reducible refine Below.alloc ?_ (by first | (simp; done) | (simp; omega) | omega) _) | (with_reducible refine Below.setCell ?_ (by first | (simp; done) | (simp; omega) | omega) _) | (with_reducible refine Below.drew ?_) | (with_reducible refine Below.drewN ?_ _) | (with_reducible refine Below.step ?_ (by with_reducible assumption))))
    have HAT := hd hat
    have hnl : ([] : List Int).length = 0 := rfl
    have hol : 0 ≤ n := nodup_le n [] hat.nodup (fun x hx => ⟨(hat.lt x hx).1, (hat.lt x hx).2.1⟩)
    have hlen := hat.len
    obtain ⟨f, rfl⟩ : ∃ k, f = k + 1 := ⟨f - 1, by omega⟩
    obtain ⟨hc1, hf1⟩ := bcell hat.below
    have hsz : w.heap.size < wr.heap.size := by have := hat.below.size; simp at this; omega
    have HBW := hd hbw
    clear hat hbw
    by_cases hr0 : readyTo es (0#64) n = 0#64
    · have hz : ((nb (readyTo es (0#64) n) : Int) != 0) = false := by rw [bne, nb_eq0, hr0]; rfl
      have Hfin : Hid (order n es = []) := by
        have := HAT.out.run
        rw [oRun, if_pos hr0] at this
        exact this.symm
      clear hr0
      by_cases hlt : ([] : List Int).length < n
      · have Her : Hid (orderErr n es = 21) := by rw [Hid, orderErr, Hfin.out, if_pos hlt]
        go_wp2_with (go_at_call 87; (with_reducible refine (ready_z n v es _ (HS.out.below HBW.out) HR.out).mono ?_); rintro e w2 ⟨rfl, hb2⟩; obtain ⟨hc2, hf2⟩ := bcell hb2; have HB2 := hd hb2; clear hb2)
        go_ret2
        have hx0 := HB2.out; have hx1 := HBW.out
        rw [OrderFin, Her.out, if_neg (by decide)]
        exact ⟨_, rfl, World.ownsRow_nil _ _ _ _, (by repeat (first | (with_reducible refine hd ?_) | (with_reducible exact Below.refl _ _) | (with_reducible assumption) | (with_reducible refine Below.alloc ?_ (by first | (simp; done) | (simp; omega) | omega) _) | (with_reducible refine Below.setCell ?_ (by first | (simp; done) | (simp; omega) | omega) _) | (with_reducible refine Below.drew ?_) | (with_reducible refine Below.drewN ?_ _) | (with_reducible refine Below.step ?_ (by with_reducible assumption))))⟩
      · have Her : Hid (orderErr n es = 0) := by rw [Hid, orderErr, Hfin.out, if_neg hlt]
        go_wp2_with (go_at_call 87; (with_reducible refine (ready_z n v es _ (HS.out.below HBW.out) HR.out).mono ?_); rintro e w2 ⟨rfl, hb2⟩; obtain ⟨hc2, hf2⟩ := bcell hb2; have HB2 := hd hb2; clear hb2)
        go_ret2
        have hx0 := HB2.out; have hx1 := HBW.out
        rw [OrderFin, Her.out, if_pos rfl, Hfin.out]
        exact ⟨_, rfl, own_mono (own_below HAT.out.own HB2.out) (by omega), (by repeat (first | (with_reducible refine hd ?_) | (with_reducible exact Below.refl _ _) | (with_reducible assumption) | (with_reducible refine Below.alloc ?_ (by first | (simp; done) | (simp; omega) | omega) _) | (with_reducible refine Below.setCell ?_ (by first | (simp; done) | (simp; omega) | omega) _) | (with_reducible refine Below.drew ?_) | (with_reducible refine Below.drewN ?_ _) | (with_reducible refine Below.step ?_ (by with_reducible assumption))))⟩
    · have hz : ((nb (readyTo es (0#64) n) : Int) != 0) = true := by
        rw [bne, nb_eq0]; simp [hr0]
      have HR0 := hd hr0
      clear hr0
      go_wp2_with (first | (go_at_call 87; (with_reducible refine (ready_z n v es _ (HS.out.below HBW.out) HR.out).mono ?_); rintro e w2 ⟨rfl, hb2⟩; obtain ⟨hc2, hf2⟩ := bcell hb2; have HB2 := hd hb2; clear hb2) | (go_at_call 88; (with_reducible refine (tz64_c _ _ ((HT.out.below HBW.out HT.out.pos).below HB2.out (Nat.lt_of_lt_of_le HT.out.pos (by omega))) HR0.out).mono ?_); rintro e w3 ⟨rfl, rfl⟩))
      have hlr := hd (low_ready (es := es) (s := 0#64) hn HR0.out)
      have Hrun : Hid (oRun es n f (0#64 ||| one (low (readyTo es (0#64) n))) ([] ++ [(low (readyTo es (0#64) n) : Int)]) = order n es) := by
        have := HAT.out.run
        rw [oRun, if_neg HR0.out] at this
        exact this
      have hlo : low (readyTo es (0#64) n) < n := hlr.out.1
      generalize low (readyTo es (0#64) n) = l at hlr Hrun hlo
      have hown := hd (own_below HAT.out.own HB2.out)
      have hsz2 : wr.heap.size ≤ w2.heap.size := HB2.out.size
      have bor := nb_or0
      have bon := nb_one
      go_region_law (go_loud (refine step_append_lies _ rfl (.tmp 21) (.tmp 23) 25 rfl (w.heap.size + 1) 3 i (.int .i64 0) 1 8 Tryd.underlying25 hi hz0 hz1 hz2 rfl (by decide) (.slice none 0 0) (0) (ints []) (by rfl) (own_below hown.out (by repeat (first | (with_reducible refine hd ?_) | (with_reducible exact Below.refl _ _) | (with_reducible assumption) | (with_reducible refine Below.alloc ?_ (by first | (simp; done) | (simp; omega) | omega) _) | (with_reducible refine Below.setCell ?_ (by first | (simp; done) | (simp; omega) | omega) _) | (with_reducible refine Below.drew ?_) | (with_reducible refine Below.drewN ?_ _) | (with_reducible refine Below.step ?_ (by with_reducible assumption))))) ⟨w2.heap.size, 0, none⟩ 1 1 [.int .i64 l] (by rfl) rfl (by exact cell_one_new _ _ _) (by intro u hu; simp at hu; subst hu; rfl) (by decide) (by unfold maxLen; omega) (by omega) (by simp; omega) _ rfl ?_); intro g cap w3 hown3 hgr3 hwh hlt3)
      clear bor bon
      go_wp2
      go_step3
      have hb3 : Below w.heap.size w w3 := by
        have hx0 := HB2.out; have hx1 := HBW.out
        exact Below.grown (w := (w2.alloc (.cells #[.int .i64 l] 3)).drew) (by repeat (first | (with_reducible refine hd ?_) | (with_reducible exact Below.refl _ _) | (with_reducible assumption) | (with_reducible refine Below.alloc ?_ (by first | (simp; done) | (simp; omega) | omega) _) | (with_reducible refine Below.setCell ?_ (by first | (simp; done) | (simp; omega) | omega) _) | (with_reducible refine Below.drew ?_) | (with_reducible refine Below.drewN ?_ _) | (with_reducible refine Below.step ?_ (by with_reducible assumption)))) hgr3 (by simp; omega) (fun k hk => by have := (hown.out.lt k hk).1; omega)
      have hB3 : Below (w.alloc (.cells #[.int .i64 n, v] 131)).heap.size (w.alloc (.cells #[.int .i64 n, v] 131)) w3 := by
        have hx0 := HB2.out; have hx1 := HAT.out.below
        exact Below.grown (w := (w2.alloc (.cells #[.int .i64 l] 3)).drew) (by repeat (first | (with_reducible refine hd ?_) | (with_reducible exact Below.refl _ _) | (with_reducible assumption) | (with_reducible refine Below.alloc ?_ (by first | (simp; done) | (simp; omega) | omega) _) | (with_reducible refine Below.setCell ?_ (by first | (simp; done) | (simp; omega) | omega) _) | (with_reducible refine Below.drew ?_) | (with_reducible refine Below.drewN ?_ _) | (with_reducible refine Below.step ?_ (by with_reducible assumption)))) hgr3 (by simp; omega) (fun k hk => by have := (hown.out.lt k hk).1; simp; omega)
      have hat3 : OAt w v n es w3 f (0#64 ||| one l) ([] ++ [(l : Int)]) (.slice (some ⟨g, 0, none⟩) (0 + 1) cap) := by
        refine ⟨hB3, ?_, Hrun.out, by simp; omega, ?_, ?_⟩
        · rw [ints_app, List.length_append]; exact hown3
        · rw [List.nodup_append]
          refine ⟨HAT.out.nodup, by simp, fun x hx y hy => ?_⟩
          simp at hy; subst hy
          intro e; subst e
          have h1 := (HAT.out.lt _ hx).2.2
          rw [Int.toNat_natCast, hlr.out.2.1] at h1
          cases h1
        · intro x hx
          rcases List.mem_append.1 hx with hx | hx
          · have := HAT.out.lt x hx
            exact ⟨this.1, this.2.1, by rw [bit_or_one _ _ _ (by omega), this.2.2]; rfl⟩
          · simp at hx; subst hx
            exact ⟨by omega, by omega, by rw [bit_or_one _ _ _ (by omega), Int.toNat_natCast]; simp⟩
      exact ⟨rfl, ⟨f, _, _, _, _, _, _, _, _, _, _, _, _, _, _, _, _, _, _, _, _, hat3, by rw [BitVec.zero_or]; rfl⟩⟩
  · intro a wr hJ
    obtain ⟨f, s, o, v5, u7, u8, u14, u15, u16, u17, u18, u19, u20, u21, u22, u23, u24, u25, u26, u27, u28, hat, rfl⟩ := hJ
    have hbw : Below w.heap.size w wr := by have := hat.below; exact (by repeat (first | (with_reducible refine hd ?_) | (with_reducible exact Below.refl _ _) | (with_reducible assumption) | (with_reducible refine Below.alloc ?_ (by first | (simp; done) | (simp; omega) | omega) _) | (with_reducible refine Below.setCell ?_ (by first | (simp; done) | (simp; omega) | omega) _) | (with_reducible refine Below.drew ?_) | (with_reducible refine Below.drewN ?_ _) | (with_reducible refine Below.step ?_ (by with_reducible assumption))))
    have HAT := hd hat
    obtain ⟨A5, c5, rfl⟩ := own_slice hat.own
    have hol : o.length ≤ n := nodup_le n o hat.nodup (fun x hx => ⟨(hat.lt x hx).1, (hat.lt x hx).2.1⟩)
    have hlen := hat.len
    obtain ⟨f, rfl⟩ : ∃ k, f = k + 1 := ⟨f - 1, by omega⟩
    obtain ⟨hc1, hf1⟩ := bcell hat.below
    have hsz : w.heap.size < wr.heap.size := by have := hat.below.size; simp at this; omega
    have HBW := hd hbw
    clear hat hbw
    by_cases hr0 : readyTo es (s) n = 0#64
    · have hz : ((nb (readyTo es (s) n) : Int) != 0) = false := by rw [bne, nb_eq0, hr0]; rfl
      have Hfin : Hid (order n es = o) := by
        have := HAT.out.run
        rw [oRun, if_pos hr0] at this
        exact this.symm
      clear hr0
      by_cases hlt : (o : List Int).length < n
      · have Her : Hid (orderErr n es = 21) := by rw [Hid, orderErr, Hfin.out, if_pos hlt]
        go_wp2_with (go_at_call 87; (with_reducible refine (ready_c n v es s _ (HS.out.below HBW.out) HR.out).mono ?_); rintro e w2 ⟨rfl, hb2⟩; obtain ⟨hc2, hf2⟩ := bcell hb2; have HB2 := hd hb2; clear hb2)
        go_ret2
        have hx0 := HB2.out; have hx1 := HBW.out
        rw [OrderFin, Her.out, if_neg (by decide)]
        exact ⟨_, rfl, World.ownsRow_nil _ _ _ _, (by repeat (first | (with_reducible refine hd ?_) | (with_reducible exact Below.refl _ _) | (with_reducible assumption) | (with_reducible refine Below.alloc ?_ (by first | (simp; done) | (simp; omega) | omega) _) | (with_reducible refine Below.setCell ?_ (by first | (simp; done) | (simp; omega) | omega) _) | (with_reducible refine Below.drew ?_) | (with_reducible refine Below.drewN ?_ _) | (with_reducible refine Below.step ?_ (by with_reducible assumption))))⟩
      · have Her : Hid (orderErr n es = 0) := by rw [Hid, orderErr, Hfin.out, if_neg hlt]
        go_wp2_with (go_at_call 87; (with_reducible refine (ready_c n v es s _ (HS.out.below HBW.out) HR.out).mono ?_); rintro e w2 ⟨rfl, hb2⟩; obtain ⟨hc2, hf2⟩ := bcell hb2; have HB2 := hd hb2; clear hb2)
        go_ret2
        have hx0 := HB2.out; have hx1 := HBW.out
        rw [OrderFin, Her.out, if_pos rfl, Hfin.out]
        exact ⟨_, rfl, own_mono (own_below HAT.out.own HB2.out) (by omega), (by repeat (first | (with_reducible refine hd ?_) | (with_reducible exact Below.refl _ _) | (with_reducible assumption) | (with_reducible refine Below.alloc ?_ (by first | (simp; done) | (simp; omega) | omega) _) | (with_reducible refine Below.setCell ?_ (by first | (simp; done) | (simp; omega) | omega) _) | (with_reducible refine Below.drew ?_) | (with_reducible refine Below.drewN ?_ _) | (with_reducible refine Below.step ?_ (by with_reducible assumption))))⟩
    · have hz : ((nb (readyTo es (s) n) : Int) != 0) = true := by
        rw [bne, nb_eq0]; simp [hr0]
      have HR0 := hd hr0
      clear hr0
      go_wp2_with (first | (go_at_call 87; (with_reducible refine (ready_c n v es s _ (HS.out.below HBW.out) HR.out).mono ?_); rintro e w2 ⟨rfl, hb2⟩; obtain ⟨hc2, hf2⟩ := bcell hb2; have HB2 := hd hb2; clear hb2) | (go_at_call 88; (with_reducible refine (tz64_c _ _ ((HT.out.below HBW.out HT.out.pos).below HB2.out (Nat.lt_of_lt_of_le HT.out.pos (by omega))) HR0.out).mono ?_); rintro e w3 ⟨rfl, rfl⟩))
      have hlr := hd (low_ready (es := es) (s := s) hn HR0.out)
      have Hrun : Hid (oRun es n f (s ||| one (low (readyTo es (s) n))) (o ++ [(low (readyTo es (s) n) : Int)]) = order n es) := by
        have := HAT.out.run
        rw [oRun, if_neg HR0.out] at this
        exact this
      have hlo : low (readyTo es (s) n) < n := hlr.out.1
      generalize low (readyTo es (s) n) = l at hlr Hrun hlo
      have hown := hd (own_below HAT.out.own HB2.out)
      have hsz2 : wr.heap.size ≤ w2.heap.size := HB2.out.size
      have bor := nb_or
      have bon := nb_one
      go_region_law (go_loud (refine step_append_lies _ rfl (.tmp 21) (.tmp 23) 25 rfl (w.heap.size + 1) 3 i (.int .i64 0) 1 8 Tryd.underlying25 hi hz0 hz1 hz2 rfl (by decide) (.slice A5 o.length c5) (o.length) (ints o) (by rfl) (own_below hown.out (by repeat (first | (with_reducible refine hd ?_) | (with_reducible exact Below.refl _ _) | (with_reducible assumption) | (with_reducible refine Below.alloc ?_ (by first | (simp; done) | (simp; omega) | omega) _) | (with_reducible refine Below.setCell ?_ (by first | (simp; done) | (simp; omega) | omega) _) | (with_reducible refine Below.drew ?_) | (with_reducible refine Below.drewN ?_ _) | (with_reducible refine Below.step ?_ (by with_reducible assumption))))) ⟨w2.heap.size, 0, none⟩ 1 1 [.int .i64 l] (by rfl) rfl (by exact cell_one_new _ _ _) (by intro u hu; simp at hu; subst hu; rfl) (by decide) (by unfold maxLen; omega) (by omega) (by simp; omega) _ rfl ?_); intro g cap w3 hown3 hgr3 hwh hlt3)
      clear bor bon
      go_wp2
      go_step3
      have hb3 : Below w.heap.size w w3 := by
        have hx0 := HB2.out; have hx1 := HBW.out
        exact Below.grown (w := (w2.alloc (.cells #[.int .i64 l] 3)).drew) (by repeat (first | (with_reducible refine hd ?_) | (with_reducible exact Below.refl _ _) | (with_reducible assumption) | (with_reducible refine Below.alloc ?_ (by first | (simp; done) | (simp; omega) | omega) _) | (with_reducible refine Below.setCell ?_ (by first | (simp; done) | (simp; omega) | omega) _) | (with_reducible refine Below.drew ?_) | (with_reducible refine Below.drewN ?_ _) | (with_reducible refine Below.step ?_ (by with_reducible assumption)))) hgr3 (by simp; omega) (fun k hk => by have := (hown.out.lt k hk).1; omega)
      have hB3 : Below (w.alloc (.cells #[.int .i64 n, v] 131)).heap.size (w.alloc (.cells #[.int .i64 n, v] 131)) w3 := by
        have hx0 := HB2.out; have hx1 := HAT.out.below
        exact Below.grown (w := (w2.alloc (.cells #[.int .i64 l] 3)).drew) (by repeat (first | (with_reducible refine hd ?_) | (with_reducible exact Below.refl _ _) | (with_reducible assumption) | (with_reducible refine Below.alloc ?_ (by first | (simp; done) | (simp; omega) | omega) _) | (with_reducible refine Below.setCell ?_ (by first | (simp; done) | (simp; omega) | omega) _) | (with_reducible refine Below.drew ?_) | (with_reducible refine Below.drewN ?_ _) | (with_reducible refine Below.step ?_ (by with_reducible assumption)))) hgr3 (by simp; omega) (fun k hk => by have := (hown.out.lt k hk).1; simp; omega)
      have hat3 : OAt w v n es w3 f (s ||| one l) (o ++ [(l : Int)]) (.slice (some ⟨g, 0, none⟩) (o.length + 1) cap) := by
        refine ⟨hB3, ?_, Hrun.out, by simp; omega, ?_, ?_⟩
        · rw [ints_app, List.length_append]; exact hown3
        · rw [List.nodup_append]
          refine ⟨HAT.out.nodup, by simp, fun x hx y hy => ?_⟩
          simp at hy; subst hy
          intro e; subst e
          have h1 := (HAT.out.lt _ hx).2.2
          rw [Int.toNat_natCast, hlr.out.2.1] at h1
          cases h1
        · intro x hx
          rcases List.mem_append.1 hx with hx | hx
          · have := HAT.out.lt x hx
            exact ⟨this.1, this.2.1, by rw [bit_or_one _ _ _ (by omega), this.2.2]; rfl⟩
          · simp at hx; subst hx
            exact ⟨by omega, by omega, by rw [bit_or_one _ _ _ (by omega), Int.toNat_natCast]; simp⟩
      exact ⟨rfl, ⟨f, _, _, _, _, _, _, _, _, _, _, _, _, _, _, _, _, _, _, _, _, hat3, rfl⟩, by show (n + 1 - (o.length + 1) : Nat) < n + 1 - o.length; omega⟩

/-- digraph.Graph.Order, whatever the graph: its error and its order. -/
def orderE (n : Int) (es : List (Int × Int)) : Int := if chk n es = 0 then orderErr n.toNat es else chk n es
def orderL (n : Int) (es : List (Int × Int)) : List Int := if orderE n es = 0 then order n.toNat es else []
def OrderAll (w : World) (n : Int) (es : List (Int × Int)) (e : Ending) (w' : World) : Prop := OrderPost w (orderE n es) (orderL n es) e w'
theorem inR_of_chk {n : Int} {es : List (Int × Int)} (h : chk n es = 0) : InR n.toNat es ∧ ((n.toNat : Nat) : Int) = n := by
  obtain ⟨h0, h1, h2, h3⟩ := chk_ok h
  refine ⟨⟨by omega, by omega, fun k hk => ?_⟩, by omega⟩
  have := h3 es[k] (List.getElem_mem hk)
  refine ⟨es[k].1.toNat, es[k].2.toNat, ?_, by omega, by omega⟩
  rw [Prod.ext_iff]; simp only; omega
theorem order_c (n : Int) (v : Value) (es : List (Int × Int)) (w : World) (hs : Sl w v es.length (pairs es)) (hT : Tab w) :
    Calls Tryd.prog 76 #[.agg #[.int .i64 n, v]] w (OrderAll w n es) := by
  by_cases h : chk n es = 0
  · obtain ⟨h1, h2⟩ := inR_of_chk h
    have := order_good n.toNat v es w hs (by rw [h2]; exact h) h1 hT
    rw [h2] at this
    refine this.mono fun e w' hp => ?_
    unfold OrderAll orderL orderE
    rw [if_pos h]
    exact hp
  · refine (order_bad n v es w hs h).mono fun e w' hp => ?_
    unfold OrderAll orderL orderE
    rw [if_neg h, if_neg h]
    exact hp
end Go.Proofs.YtaamjpeehejafaaDoor
