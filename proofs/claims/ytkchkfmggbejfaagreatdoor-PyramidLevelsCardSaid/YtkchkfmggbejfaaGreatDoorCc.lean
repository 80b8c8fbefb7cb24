/- The reference's Reduce. -/
import Derived.Test.YtkchkfmggbejfaaGreatDoorCb
namespace Go.Proofs.YtkchkfmggbejfaaGreatDoor
open Go.RowKit Go.Proofs.YtkchkfmggbejfaaGreatDoorW.PrintWords
set_option linter.unusedSimpArgs false
set_option maxRecDepth 20000

def rred (k : Nat) : Nat → Int → Int → List Pc.S44 → Option (Int × Int × List Pc.S44)
  | 0, a, b, l => some (a, b, l)
  | n + 1, a, b, l => (rred k n a b l).bind fun t => (Pc.imageeditorref35_Half.f k t.1 t.2.1 t.2.2).bind fun u => some (u.1, u.2.1, u.2.2.1)
theorem rred_some {k a b l} : ∀ {n m : Nat}, m ≤ n → (rred k n a b l).isSome → (rred k m a b l).isSome := by
  intro n
  induction n with
  | zero => intro m hm h; obtain rfl : m = 0 := by omega
            exact h
  | succ n ih =>
    intro m hm h
    rcases Nat.lt_or_ge m (n + 1) with h1 | h1
    · refine ih (by omega) ?_
      simp only [rred] at h
      cases hr : rred k n a b l with
      | none => rw [hr] at h; simp at h
      | some t => rfl
    · obtain rfl : m = n + 1 := by omega
      exact h
theorem rred_ev {i : Im} (hi : i.ok) : ∀ n, Ev (fun k => rred k n i.w i.h (i.p.map cv)) (((redS n i).w : Int), ((redS n i).h : Int), (redS n i).p.map cv)
  | 0 => Ev.all fun _ => rfl
  | n + 1 => Ev.bind (rred_ev hi n) (Ev.bind (rhalf_ev (redS_ok hi n)) (Ev.all fun _ => rfl))

theorem rreduce_bad (k : Nat) (a b : Int) (A : Option Addr) (c : Nat) (l : List Pc.S44) (lv e : Int) (w : World) (hr : Kd.C Pc.k44 w A l.length l) (hc : l.length ≤ c) (h : Pc.imageeditorref11_Check.f k a b l = some e) (he : e ≠ 0) :
    Calls Tryz.prog 18 #[.agg #[.int .i64 a, .int .i64 b, .slice A l.length c], .int .i64 lv] w fun en w' => en = .returned (.tuple #[.agg #[.int .i64 0, .int .i64 0, .slice none 0 0], .int .i64 e]) ∧ Below w.heap.size w w' := by
  obtain ⟨W, hW⟩ : ∃ W, W = (w.alloc (.cells #[.int .i64 a, .int .i64 b, .slice A l.length c] 31)).alloc (.cells #[.int .i64 0, .int .i64 0, .slice none 0 0] 31) := ⟨_, rfl⟩
  have hbW : Below w.heap.size w W := by rw [hW]; exact (bel_alloc _ _).alloc (by simp) _
  have h2 : W.heap[w.heap.size]? = some (.cells #[.int .i64 a, .int .i64 b, .slice A l.length c] 31 (0, 0)) := by rw [hW]; exact blk_in (bel_alloc _ _) (blk_new w _)
  have h4 : W.heap[w.heap.size + 1]? = some (.cells #[.int .i64 0, .int .i64 0, .slice none 0 0] 31 (0, 0)) := by rw [hW]; exact blk_at _ _ _ (by simp)
  have HW := Lib.hid hW
  have HbW := Lib.hid hbW
  have H4 := Lib.hid h4
  have Hr := Lib.hid (Kd.C_below hr hbW)
  have Hh := Lib.hid h
  obtain ⟨c0, c1, c2, _⟩ := blk3 h2
  clear hW hbW h2 h4 hr h
  go_enter Tryz.func18, Tryz.ntmps18
  go_wp2_with fail
  rw [← HW.out]
  have K := Pc.imageeditorref11_Check.calls k a b A c l e W Hr.out hc Hh.out
  with_reducible refine K.mono ?_
  clear K
  rintro en w1 ⟨rfl, hb⟩
  obtain ⟨d0, d1, d2, y0, y1, y2⟩ := blk3 (blk_in hb H4.out)
  have hl4 : w.heap.size + 1 < w1.heap.size := (Array.getElem?_eq_some_iff.1 (blk_in hb H4.out)).1
  have hn : (e != 0) = true := by simp [he]
  have Hb := Lib.hid hb
  clear hb
  go_wp2
  refine bodyPost_ret (v := .tuple #[.agg #[.int .i64 0, .int .i64 0, .slice none 0 0], .int .i64 e]) (by simp [results, Tryz.results18, go_sem, *]) rfl ⟨rfl, ?_⟩
  have hb := HbW.out.trans (Hb.out.mono HbW.out.size)
  refine Below.setCell (Below.setCell (Below.setCell hb ?_ _) ?_ _) ?_ _ <;> (simp; try omega)

theorem rreduce_range (k : Nat) (a b : Int) (A : Option Addr) (c : Nat) (l : List Pc.S44) (lv : Int) (w : World) (hr : Kd.C Pc.k44 w A l.length l) (hc : l.length ≤ c) (h : Pc.imageeditorref11_Check.f k a b l = some 0) (hl : lv < 0 ∨ 4 < lv) :
    Calls Tryz.prog 18 #[.agg #[.int .i64 a, .int .i64 b, .slice A l.length c], .int .i64 lv] w fun en w' => en = .returned (.tuple #[.agg #[.int .i64 0, .int .i64 0, .slice none 0 0], .int .i64 2]) ∧ Below w.heap.size w w' := by
  obtain ⟨W, hW⟩ : ∃ W, W = (w.alloc (.cells #[.int .i64 a, .int .i64 b, .slice A l.length c] 31)).alloc (.cells #[.int .i64 0, .int .i64 0, .slice none 0 0] 31) := ⟨_, rfl⟩
  have hbW : Below w.heap.size w W := by rw [hW]; exact (bel_alloc _ _).alloc (by simp) _
  have h2 : W.heap[w.heap.size]? = some (.cells #[.int .i64 a, .int .i64 b, .slice A l.length c] 31 (0, 0)) := by rw [hW]; exact blk_in (bel_alloc _ _) (blk_new w _)
  have h4 : W.heap[w.heap.size + 1]? = some (.cells #[.int .i64 0, .int .i64 0, .slice none 0 0] 31 (0, 0)) := by rw [hW]; exact blk_at _ _ _ (by simp)
  have HW := Lib.hid hW
  have HbW := Lib.hid hbW
  have H4 := Lib.hid h4
  have Hr := Lib.hid (Kd.C_below hr hbW)
  have Hh := Lib.hid h
  obtain ⟨c0, c1, c2, _⟩ := blk3 h2
  clear hW hbW h2 h4 hr h
  go_enter Tryz.func18, Tryz.ntmps18
  go_wp2_with fail
  rw [← HW.out]
  have K := Pc.imageeditorref11_Check.calls k a b A c l 0 W Hr.out hc Hh.out
  with_reducible refine K.mono ?_
  clear K
  rintro en w1 ⟨rfl, hb⟩
  obtain ⟨d0, d1, d2, y0, y1, y2⟩ := blk3 (blk_in hb H4.out)
  have hl4 : w.heap.size + 1 < w1.heap.size := (Array.getElem?_eq_some_iff.1 (blk_in hb H4.out)).1
  have Hb := Lib.hid hb
  clear hb
  by_cases h0 : lv < 0
  · have d0' : decide (lv < 0) = true := decide_eq_true h0
    go_wp2
    refine bodyPost_ret (v := .tuple #[.agg #[.int .i64 0, .int .i64 0, .slice none 0 0], .int .i64 2]) (by simp [results, Tryz.results18, go_sem, *]) rfl ⟨rfl, ?_⟩
    have hb := HbW.out.trans (Hb.out.mono HbW.out.size)
    refine Below.setCell (Below.setCell (Below.setCell hb ?_ _) ?_ _) ?_ _ <;> (simp; try omega)
  · have d0' : decide (lv < 0) = false := decide_eq_false h0
    have d1' : decide (lv > 4) = true := decide_eq_true (hl.resolve_left h0)
    go_wp2
    refine bodyPost_ret (v := .tuple #[.agg #[.int .i64 0, .int .i64 0, .slice none 0 0], .int .i64 2]) (by simp [results, Tryz.results18, go_sem, *]) rfl ⟨rfl, ?_⟩
    have hb := HbW.out.trans (Hb.out.mono HbW.out.size)
    refine Below.setCell (Below.setCell (Below.setCell hb ?_ _) ?_ _) ?_ _ <;> (simp; try omega)

/-- The row that came in, or one of the call's own. -/
def Row (w wr : World) (A : Option Addr) (c : Nat) (l : List Pc.S44) (v : Value) (q : List Pc.S44) : Prop :=
  (v = .slice A l.length c ∧ q = l) ∨ Kd.R Pc.k44 44 wr w.heap.size (fun _ => True) v q
theorem Row.reads {w wr : World} {A : Option Addr} {c : Nat} {l q : List Pc.S44} {v : Value} (h : Row w wr A c l v q) (hr : Kd.C Pc.k44 w A l.length l) (hc : l.length ≤ c) (hb : Below w.heap.size w wr) :
    ∃ A' c', v = .slice A' q.length c' ∧ q.length ≤ c' ∧ Kd.C Pc.k44 wr A' q.length q := by
  rcases h with ⟨rfl, rfl⟩ | h
  · exact ⟨A, c, rfl, hc, Kd.C_below hr hb⟩
  · exact Kd.R_reads h
theorem Row.set3 {w wr : World} {A : Option Addr} {c : Nat} {l q : List Pc.S44} {v : Value} (h : Row w wr A c l v q) {g : Nat} {cells : Array Value} (hb : wr.heap[g]? = some (.cells cells 31 (0, 0))) (x y z : Value) :
    Row w (((wr.setCell ⟨g, 0, none⟩ x).setCell ⟨g, 1, none⟩ y).setCell ⟨g, 2, none⟩ z) A c l v q := by
  rcases h with h | h
  · exact .inl h
  · exact .inr (Go.Proofs.YtkchkfmggbejfaaGreatDoor.set3 h hb (by decide) _ _ _)

set_option maxHeartbeats 2000000 in
theorem rreduce_ok (k : Nat) (a b : Int) (A : Option Addr) (c : Nat) (l : List Pc.S44) (lv : Nat) (r1 r2 : Int) (r3 : List Pc.S44) (w : World) (hr : Kd.C Pc.k44 w A l.length l) (hc : l.length ≤ c) (h : Pc.imageeditorref11_Check.f k a b l = some 0) (h4l : lv ≤ 4) (hred : rred k lv a b l = some (r1, r2, r3)) :
    Calls Tryz.prog 18 #[.agg #[.int .i64 a, .int .i64 b, .slice A l.length c], .int .i64 lv] w fun en w' => ∃ A' c', en = .returned (.tuple #[.agg #[.int .i64 r1, .int .i64 r2, .slice A' r3.length c'], .int .i64 0]) ∧ r3.length ≤ c' ∧ Kd.C Pc.k44 w' A' r3.length r3 ∧ Below w.heap.size w w' := by
  obtain ⟨W, hW⟩ : ∃ W, W = (w.alloc (.cells #[.int .i64 a, .int .i64 b, .slice A l.length c] 31)).alloc (.cells #[.int .i64 0, .int .i64 0, .slice none 0 0] 31) := ⟨_, rfl⟩
  have hbW : Below w.heap.size w W := by rw [hW]; exact (bel_alloc _ _).alloc (by simp) _
  have h2 : W.heap[w.heap.size]? = some (.cells #[.int .i64 a, .int .i64 b, .slice A l.length c] 31 (0, 0)) := by rw [hW]; exact blk_in (bel_alloc _ _) (blk_new w _)
  have h4 : W.heap[w.heap.size + 1]? = some (.cells #[.int .i64 0, .int .i64 0, .slice none 0 0] 31 (0, 0)) := by rw [hW]; exact blk_at _ _ _ (by simp)
  have d0' : decide ((lv : Int) < 0) = false := decide_eq_false (Int.not_lt.2 (Int.natCast_nonneg _))
  have d1' : decide ((lv : Int) > 4) = false := decide_eq_false (Int.not_lt.2 (Int.ofNat_le.2 h4l))
  have HW := Lib.hid hW
  have HbW := Lib.hid hbW
  have H2 := Lib.hid h2
  have H4 := Lib.hid h4
  have H0 := Lib.hid hr
  have Hr := Lib.hid (Kd.C_below hr hbW)
  have Hh := Lib.hid h
  have Hred := Lib.hid hred
  obtain ⟨c0, c1, c2, _⟩ := blk3 h2
  clear hW hbW h2 h4 hr h hred
  go_enter Tryz.func18, Tryz.ntmps18
  go_wp2_with fail
  rw [← HW.out]
  have K := Pc.imageeditorref11_Check.calls k a b A c l 0 W Hr.out hc Hh.out
  with_reducible refine K.mono ?_
  clear K
  rintro en w1 ⟨rfl, hb⟩
  have H2a := Lib.hid (blk_in hb H2.out)
  have H4a := Lib.hid (blk_in hb H4.out)
  have Hb1 := Lib.hid (HbW.out.trans (hb.mono HbW.out.size))
  clear hb c0 c1 c2
  go_wp2_with fail
  go_loopw [7] (fun v7 wr => ∃ (j : Nat) (q1 q2 : Int) (q3 : List Pc.S44) (v : Value), j ≤ lv ∧ v7 = .int .i64 j ∧ rred k j a b l = some (q1, q2, q3) ∧ wr.heap[w.heap.size]? = some (.cells #[.int .i64 q1, .int .i64 q2, v] 31 (0, 0)) ∧ wr.heap[w.heap.size + 1]? = some (.cells #[.int .i64 0, .int .i64 0, .slice none 0 0] 31 (0, 0)) ∧ Row w wr A c l v q3 ∧ Below w.heap.size w wr) (fun v _ => lv - (intOf v).toNat)
  case atStart => exact ⟨0, a, b, l, _, Nat.zero_le _, rfl, rfl, H2a.out, H4a.out, .inl ⟨rfl, rfl⟩, Hb1.out⟩
  case round =>
    obtain ⟨j, q1, q2, q3, v, hj, rfl, hq, hb2, hb4, hv, hb⟩ := hrel
    obtain ⟨A4, c4, rfl, hcap, hC⟩ := hv.reads H0.out hc hb
    obtain ⟨c0, c1, c2, f0, f1, f2⟩ := blk3 hb2
    have Hq := Lib.hid hq
    have G2 := Lib.hid hb2
    have G4 := Lib.hid hb4
    have Gv := Lib.hid hv
    have Gb := Lib.hid hb
    have GC := Lib.hid hC
    clear hq hb2 hb4 hv hb hC
    by_cases hlt : j < lv
    · obtain ⟨⟨s1, s2, s3, s4⟩, hs⟩ : ∃ t, Pc.imageeditorref35_Half.f k q1 q2 q3 = some t := by
        have h1 : (rred k (j + 1) a b l).isSome := rred_some (n := lv) (by omega) (by rw [Hred.out]; rfl)
        simp only [rred, Hq.out, Option.bind_some] at h1
        cases hf : Pc.imageeditorref35_Half.f k q1 q2 q3 with
        | none => rw [hf] at h1; simp at h1
        | some t => exact ⟨t, rfl⟩
      have hjl : (j : Int) < (lv : Int) := by omega
      have Hs := Lib.hid hs
      clear hs
      go_wp2_with fail
      have K := Pc.imageeditorref35_Half.calls k q1 q2 A4 c4 q3 s1 s2 s3 s4 wr GC.out hcap Hs.out
      with_reducible refine K.mono ?_
      clear K
      rintro en w5 ⟨v5, rfl, hv5, hb5⟩
      obtain ⟨A5, c5, rfl⟩ := Kd.R_slice hv5
      have G2' := Lib.hid (blk_in hb5 G2.out)
      have G4' := Lib.hid (blk_in hb5 G4.out)
      have Gb' := Lib.hid (Gb.out.trans (hb5.mono Gb.out.size))
      have Gv' : Hid (Row w w5 A c l (.slice A5 s3.length c5) s3) := Lib.hid (.inr (Kd.R_lower hv5 Gb.out.size))
      clear hv5 hb5 c0 c1 c2 f0 f1 f2
      obtain ⟨c0, c1, c2, f0, f1, f2⟩ := blk3 G2'.out
      have hl5 : w.heap.size < w5.heap.size := (Array.getElem?_eq_some_iff.1 G2'.out).1
      go_wp2
      go_roundw
      case rel =>
        refine ⟨j + 1, s1, s2, s3, _, by omega, by go_num, by simp only [rred, Hq.out, Option.bind_some, Hs.out], blk_set (blk_set (blk_set G2'.out 0 _) 1 _) 2 _, blk_far (blk_far (blk_far G4'.out (by simp) _) (by simp) _) (by simp) _, Gv'.out.set3 G2'.out _ _ _, ?_⟩
        exact Below.setCell (Below.setCell (Below.setCell Gb'.out (Nat.le_refl _) _) (Nat.le_refl _) _) (Nat.le_refl _) _
      case measure => simp [intOf]; omega
    · obtain rfl : j = lv := by omega
      obtain ⟨rfl, rfl, rfl⟩ : q1 = r1 ∧ q2 = r2 ∧ q3 = r3 := by
        have := Hq.out.symm.trans Hred.out
        simpa using this
      obtain ⟨d0, d1, d2, y0, y1, y2⟩ := blk3 G4.out
      have hl4 : w.heap.size + 1 < wr.heap.size := (Array.getElem?_eq_some_iff.1 G4.out).1
      go_wp2
      have hbE : Below w.heap.size w (((wr.setCell ⟨w.heap.size + 1, 0, none⟩ (.int .i64 q1)).setCell ⟨w.heap.size + 1, 1, none⟩ (.int .i64 q2)).setCell ⟨w.heap.size + 1, 2, none⟩ (.slice A4 q3.length c4)) := by
        refine Below.setCell (Below.setCell (Below.setCell Gb.out ?_ _) ?_ _) ?_ _ <;> simp
      obtain ⟨A6, c6, e6, h6, hC6⟩ := (Gv.out.set3 G4.out (.int .i64 q1) (.int .i64 q2) (.slice A4 q3.length c4)).reads H0.out hc hbE
      simp only [Value.slice.injEq, true_and] at e6
      obtain ⟨rfl, rfl⟩ := e6
      exact bodyPost_ret (v := .tuple #[.agg #[.int .i64 q1, .int .i64 q2, .slice A4 q3.length c4], .int .i64 0]) (by simp [results, Tryz.results18, go_sem, *]) rfl ⟨_, _, rfl, h6, hC6, hbE⟩
end Go.Proofs.YtkchkfmggbejfaaGreatDoor
