/- The reference's Copy. -/
import Derived.Test.YtpdjfcnlbaaogaaUa
import Derived.Test.YtpdjfcnlbaaogaaY
namespace Go.Proofs.Ytpdjfcnlbaaogaa
open Go.RowKit
set_option linter.unusedSimpArgs false
set_option maxRecDepth 20000

set_option maxHeartbeats 4000000 in
theorem rcopy_any {w : World} {B p : Nat} {s : Mo.Ca} {F : Nat → Prop} (h : RAt w B p s F) (hs : Mo.Sm s) : Calls Try.prog 22 #[.pointer (some ⟨p, 0, none⟩)] w fun e w' => ∃ q G, e = .returned (.pointer (some ⟨q, 0, none⟩)) ∧ RAt w' B q s G ∧ Below w.heap.size w w' ∧ ∀ b, G b → w.heap.size ≤ b := by
  have h' := h
  obtain ⟨hok, hB, vk, vi, vs, hr, rfl⟩ := h
  have hlen : s.l.length ≤ 4096 := by have := hok.len; have := hok.b1; omega
  obtain ⟨c0, c1, c2, c3, cm, _⟩ := blk5 hr.blk
  have hpw := (Array.getElem?_eq_some_iff.1 hr.blk).1
  have Hr := Lib.hid hr
  have H' := Lib.hid h'
  have Hs := Lib.hid hs
  clear hr h' hs
  go_enter Try.func22, Try.ntmps22
  go_wp2_with fail
  refine (rmade_is p true _ cm).mono ?_
  rintro e w1 ⟨rfl, rfl⟩
  go_wp2_with fail
  go_region_held3 (fun w' => w'.cell? ⟨p, 0, none⟩ = some (.int .i64 s.bud) ∧ w'.cell? ⟨p, 1, none⟩ = some (.int .i64 s.ev))
    (first
      | go_keep
      | exact Hk.out)
    (first
      | (go_at_call 14
         have K := rkeys_any (w := w.drew) (H'.out.below (Below.drew (Below.refl _ _)))
         with_reducible refine K.mono ?_
         clear K
         rintro e w2 ⟨v', rfl, ho2, hb2⟩
         obtain ⟨A', c', rfl⟩ := own_slice ho2
         have hp2 := blk_in hb2 (show w.drew.heap[p]? = _ from Hr.out.blk)
         have Hk := Lib.hid (⟨(blk5 hp2).1, (blk5 hp2).2.1⟩ : w2.cell? ⟨p, 0, none⟩ = some (.int .i64 s.bud) ∧ w2.cell? ⟨p, 1, none⟩ = some (.int .i64 s.ev))
         clear hp2))
  have hl : (Mo.keys s).length = s.l.length := by simp [Mo.keys]
  have hbw : Below w.heap.size w w2 := (Below.drew (Below.refl w.heap.size w)).trans hb2
  obtain ⟨W, hW⟩ : ∃ W, W = w2.alloc (.cells #[.int .i64 s.bud, .int .i64 s.ev, .slice A' (Mo.keys s).length c', .slice none 0 0, .bool true] 50) := ⟨_, rfl⟩
  have hbW : Below w.heap.size w W := by rw [hW]; exact hbw.alloc hbw.size _
  have hqW : W.heap[w2.heap.size]? = some (.cells #[.int .i64 s.bud, .int .i64 s.ev, .slice A' (Mo.keys s).length c', .slice none 0 0, .bool true] 50 (0, 0)) := by rw [hW]; exact blk_new w2 _
  have hoW : W.ownsRow w.heap.size 29 5 (.slice A' (Mo.keys s).length c') (Mo.keys s).length (flatK (Mo.keys s)) := by rw [hW]; exact ho2.alloc _
  have hqw : w.heap.size ≤ w2.heap.size := hbw.size
  obtain ⟨q, hq⟩ : ∃ q, q = w2.heap.size := ⟨_, rfl⟩
  obtain ⟨vK, hvK⟩ : ∃ vK, vK = Value.slice A' (Mo.keys s).length c' := ⟨_, rfl⟩
  rw [← hvK, ← hq] at hqW
  rw [← hvK] at hoW
  rw [← hq] at hqw
  rw [← hvK] at hW
  rw [← hvK, ← hW, ← hq]
  have HbW := Lib.hid hbW
  have HqW := Lib.hid hqW
  have HoW := Lib.hid hoW
  clear hbW hqW hoW hbw hW hq hvK ho2 hb2 Hk c0 c1 c2 c3 cm
  go_wp2_with fail
  have hnp : ∀ b, vi.ownBlock = some b → b < w.heap.size := fun b hb => (Hr.out.is.lt b hb).2
  go_loopw [4] (fun v4 wr => ∃ (j : Nat) (vI : Value) (vs' : List Value), j ≤ s.l.length ∧ v4 = .int .i64 j ∧ wr.heap[q]? = some (.cells #[.int .i64 s.bud, .int .i64 s.ev, vK, vI, .bool true] 50 (0, 0)) ∧ wr.ownsRow w.heap.size 29 5 vK (Mo.keys s).length (flatK (Mo.keys s)) ∧ wr.ownsRow w.heap.size 32 3 vI j (flatI vs') ∧ vs'.length = j ∧ (∀ (t : Nat) (v : Value) (i : Mo.Im), vs'[t]? = some v → (s.l.map (·.2))[t]? = some i → ImIs wr w.heap.size v i) ∧ Below w.heap.size w wr) (fun v4 _ => s.l.length - (intOf v4).toNat)
  case atStart => exact ⟨0, _, [], Nat.zero_le _, rfl, HqW.out, HoW.out, World.ownsRow_nil _ _ _ _, rfl, fun t v i h => by simp at h, HbW.out⟩
  case round =>
    obtain ⟨j, vI, vs', hj, rfl, hq, hK, hI, hvl, him, hb⟩ := hrel
    obtain ⟨_, _, _, _, _, _, _, _, _, _⟩ := blk5 hq
    have hr := Hr.out.below hb
    obtain ⟨Ai, ci, hvi⟩ := own_slice hr.is
    have Hq := Lib.hid hq
    have HK := Lib.hid hK
    have HI := Lib.hid hI
    have Hvl := Lib.hid hvl
    have Him := Lib.hid him
    have Hb := Lib.hid hb
    have Hrr := Lib.hid hr
    by_cases hlt : j < s.l.length
    · have hjv : j < vs.length := by rw [hr.len]; exact hlt
      subst hvi
      obtain ⟨gi, rfl⟩ : ∃ g, Ai = some ⟨g, 0, none⟩ := by
        rcases hr.is.2 with ⟨h, h1⟩ | ⟨g, cap, cur, he, _⟩
        · omega
        · simp at he; exact ⟨g, he.1⟩
      have hgi : gi < w.heap.size := hnp gi rfl
      have hjm : j < (s.l.map (·.2)).length := by simpa using hlt
      obtain ⟨im, hime⟩ : ∃ im, im = (s.l.map (·.2))[j] := ⟨_, rfl⟩
      obtain ⟨vp, hvp, hvo⟩ := hr.im j vs[j] im (List.getElem?_eq_getElem hjv) (by rw [hime]; exact List.getElem?_eq_getElem hjm)
      obtain ⟨A, c, rfl⟩ := own_slice hvo
      have his := hr.is
      rw [← hr.len] at his
      obtain ⟨q0, q1, q2⟩ := own_im his hr.im3 j hjv im.w im.h A im.pix.length c hvp
      have hsm : im.pix.length * 32 ≤ 140737488355328 := by
        have : im ∈ s.l.map (·.2) := by rw [hime]; exact List.getElem_mem hjm
        obtain ⟨x, hx, hxe⟩ := List.mem_map.1 this
        have := Hs.out x hx
        rw [hxe] at this
        exact this
      have hpx : PixIn wr A im.pix.length im.pix := by
        have hii : ImIs wr B (.agg #[.int .i64 im.w, .int .i64 im.h, .slice A im.pix.length c]) im := ⟨_, rfl, hvo⟩
        obtain ⟨A', n', c', he, hp⟩ := hii.read hsm
        simp only [Value.agg.injEq, Array.mk.injEq, List.cons.injEq, Value.slice.injEq, true_and, and_true] at he
        obtain ⟨rfl, rfl, rfl⟩ := he
        exact hp
      have hjI : (j : Int) < (s.l.length : Int) := by omega
      obtain ⟨_, _, _, c3, _⟩ := blk5 hr.blk
      obtain ⟨_, _, _, d3, _, _, _, _, e3, _⟩ := blk5 hq
      have hqp : vI.ownBlock ≠ some q := own_notblock hI hq (by decide)
      have hIge : ∀ b, vI.ownBlock = some b → w.heap.size ≤ b ∧ b < wr.heap.size := hI.lt
      have hlq : q < wr.heap.size := (Array.getElem?_eq_some_iff.1 hq).1
      have hlw := hb.size
      have hIK : vK.ownBlock ≠ vI.ownBlock ∨ vI.ownBlock = none := by
        cases h5 : vI.ownBlock with
        | none => exact .inr rfl
        | some b =>
          left
          intro h4
          obtain ⟨cs, hc⟩ := own_typed hI b h5
          obtain ⟨cs', hc'⟩ := own_typed hK b h4
          rw [hc] at hc'; simp at hc'
      obtain ⟨jj0, hj0, hy0, hy1, hy2⟩ := info_parts info32
      have Hpx := Lib.hid hpx
      have Hime := Lib.hid hime
      have HIge := Lib.hid hIge
      have HIK := Lib.hid hIK
      clear hq hK hI hvl him hb hr his hvp hvo hsm hpx hime hIge hIK
      go_wp2_with fail
      have hSof : ∀ w' : World, (∀ b, b < wr.heap.size → vI.ownBlock ≠ some b → w'.heap[b]? = wr.heap[b]?) → w'.cell? ⟨q, 3, none⟩ = some vI ∧ w'.cell? ⟨p, 3, none⟩ = some (.slice (some ⟨gi, 0, none⟩) s.l.length ci) ∧ w'.cell? ⟨gi, j * 3, none⟩ = some (.int .i64 im.w) ∧ w'.cell? ⟨gi, j * 3 + 1, none⟩ = some (.int .i64 im.h) ∧ w'.cell? ⟨gi, j * 3 + 2, none⟩ = some (.slice A im.pix.length c) := by
        intro w' hh
        have e1 := hh q hlq hqp
        have e2 := hh p (by omega) (fun e => by have := (HIge.out p e).1; omega)
        have e3 := hh gi (by omega) (fun e => by have := (HIge.out gi e).1; omega)
        refine ⟨?_, ?_, ?_, ?_, ?_⟩
        · exact (World.cell?_of_block (w := wr) e1).trans d3
        · exact (World.cell?_of_block (w := wr) e2).trans c3
        · exact (World.cell?_of_block (w := wr) e3).trans q0
        · exact (World.cell?_of_block (w := wr) e3).trans q1
        · exact (World.cell?_of_block (w := wr) e3).trans q2
      refine wp_region_T (D := fun j => decide (j < 15)) (S := fun w' => w'.cell? ⟨q, 3, none⟩ = some vI ∧ w'.cell? ⟨p, 3, none⟩ = some (.slice (some ⟨gi, 0, none⟩) s.l.length ci) ∧ w'.cell? ⟨gi, j * 3, none⟩ = some (.int .i64 im.w) ∧ w'.cell? ⟨gi, j * 3 + 1, none⟩ = some (.int .i64 im.h) ∧ w'.cell? ⟨gi, j * 3 + 2, none⟩ = some (.slice A im.pix.length c)) (by kernel_rfl) ?_
      have hS0 : (fun w' : World => w'.cell? ⟨q, 3, none⟩ = some vI ∧ w'.cell? ⟨p, 3, none⟩ = some (.slice (some ⟨gi, 0, none⟩) s.l.length ci) ∧ w'.cell? ⟨gi, j * 3, none⟩ = some (.int .i64 im.w) ∧ w'.cell? ⟨gi, j * 3 + 1, none⟩ = some (.int .i64 im.h) ∧ w'.cell? ⟨gi, j * 3 + 2, none⟩ = some (.slice A im.pix.length c)) { wr with drawn := wr.drawn + 1 } := ⟨d3, c3, q0, q1, q2⟩
      refine wpT_take (i := 0) (v := .pointer (some ⟨q, 0, none⟩)) [] rfl (by decide +kernel) (by decide +kernel) (by decide +kernel) (by decide +kernel) (by decide +kernel) (fun _ _ _ h => h) (Or.inl ⟨by rfl, by intro w hSw; go_simp⟩) hS0 ?_
      simp only [Act.put, List.setIfInBounds_toArray, List.set_cons_zero, List.set_cons_succ]
      refine wpT_take (i := 1) (v := .pointer (some ⟨q, 0, none⟩)) [] rfl (by decide +kernel) (by decide +kernel) (by decide +kernel) (by decide +kernel) (by decide +kernel) (fun _ _ _ h => h) (Or.inl ⟨by rfl, by intro w hSw; go_simp⟩) hS0 ?_
      simp only [Act.put, List.setIfInBounds_toArray, List.set_cons_zero, List.set_cons_succ]
      refine wpT_take (i := 2) (v := .pointer (some ⟨q, 0, none⟩)) [] rfl (by decide +kernel) (by decide +kernel) (by decide +kernel) (by decide +kernel) (by decide +kernel) (fun _ _ _ h => h) (Or.inl ⟨by rfl, by intro w hSw; go_simp⟩) hS0 ?_
      simp only [Act.put, List.setIfInBounds_toArray, List.set_cons_zero, List.set_cons_succ]
      refine wpT_take (i := 3) (v := .pointer (some ⟨q, 3, none⟩)) [] rfl (by decide +kernel) (by decide +kernel) (by decide +kernel) (by decide +kernel) (by decide +kernel) (fun _ _ _ h => h) (Or.inl ⟨by rfl, by intro w hSw; go_simp⟩) hS0 ?_
      simp only [Act.put, List.setIfInBounds_toArray, List.set_cons_zero, List.set_cons_succ]
      refine wpT_take (i := 4) (v := vI) [] rfl (by decide +kernel) (by decide +kernel) (by decide +kernel) (by decide +kernel) (by decide +kernel) (fun _ _ _ h => h) (Or.inl ⟨by rfl, by intro w hSw; obtain ⟨g1, g2, g3, g4, g5⟩ := hSw; go_simp⟩) hS0 ?_
      simp only [Act.put, List.setIfInBounds_toArray, List.set_cons_zero, List.set_cons_succ]
      refine wpT_take (i := 5) (v := .pointer (some ⟨p, 0, none⟩)) [] rfl (by decide +kernel) (by decide +kernel) (by decide +kernel) (by decide +kernel) (by decide +kernel) (fun _ _ _ h => h) (Or.inl ⟨by rfl, by intro w hSw; go_simp⟩) hS0 ?_
      simp only [Act.put, List.setIfInBounds_toArray, List.set_cons_zero, List.set_cons_succ]
      refine wpT_take (i := 6) (v := .pointer (some ⟨p, 0, none⟩)) [] rfl (by decide +kernel) (by decide +kernel) (by decide +kernel) (by decide +kernel) (by decide +kernel) (fun _ _ _ h => h) (Or.inl ⟨by rfl, by intro w hSw; go_simp⟩) hS0 ?_
      simp only [Act.put, List.setIfInBounds_toArray, List.set_cons_zero, List.set_cons_succ]
      refine wpT_take (i := 7) (v := .pointer (some ⟨p, 3, none⟩)) [] rfl (by decide +kernel) (by decide +kernel) (by decide +kernel) (by decide +kernel) (by decide +kernel) (fun _ _ _ h => h) (Or.inl ⟨by rfl, by intro w hSw; go_simp⟩) hS0 ?_
      simp only [Act.put, List.setIfInBounds_toArray, List.set_cons_zero, List.set_cons_succ]
      refine wpT_take (i := 8) (v := .slice (some ⟨gi, 0, none⟩) s.l.length ci) [] rfl (by decide +kernel) (by decide +kernel) (by decide +kernel) (by decide +kernel) (by decide +kernel) (fun _ _ _ h => h) (Or.inl ⟨by rfl, by intro w hSw; obtain ⟨g1, g2, g3, g4, g5⟩ := hSw; go_simp⟩) hS0 ?_
      simp only [Act.put, List.setIfInBounds_toArray, List.set_cons_zero, List.set_cons_succ]
      refine wpT_take (i := 9) (v := .int .i64 j) [] rfl (by decide +kernel) (by decide +kernel) (by decide +kernel) (by decide +kernel) (by decide +kernel) (fun _ _ _ h => h) (Or.inl ⟨by rfl, by intro w hSw; go_simp⟩) hS0 ?_
      simp only [Act.put, List.setIfInBounds_toArray, List.set_cons_zero, List.set_cons_succ]
      refine wpT_take (i := 10) (v := .pointer (some ⟨gi, j * 3, none⟩)) [] rfl (by decide +kernel) (by decide +kernel) (by decide +kernel) (by decide +kernel) (by decide +kernel) (fun _ _ _ h => h) (Or.inl ⟨by rfl, by intro w hSw; go_simp⟩) hS0 ?_
      simp only [Act.put, List.setIfInBounds_toArray, List.set_cons_zero, List.set_cons_succ]
      refine wpT_take (i := 11) (v := .agg #[.int .i64 im.w, .int .i64 im.h, .slice A im.pix.length c]) [] rfl (by decide +kernel) (by decide +kernel) (by decide +kernel) (by decide +kernel) (by decide +kernel) (fun _ _ _ h => h) (Or.inl ⟨by rfl, by intro w hSw; obtain ⟨g1, g2, g3, g4, g5⟩ := hSw; go_simp⟩) hS0 ?_
      simp only [Act.put, List.setIfInBounds_toArray, List.set_cons_zero, List.set_cons_succ]
      refine wpT_ready (rs := [12]) (by decide +kernel) (by simp) ?_
      refine AllT.cons rfl (fun K hK => ?_) AllT.nil
      go_simp
      have K5 := rcopied_in A im.pix.length c im wr.drew Hpx.out.drew
      with_reducible refine K5.mono ?_
      clear K5
      rintro e w5 ⟨v', rfl, him5, hb5⟩
      have hb5' : Below wr.heap.size wr w5 := (Below.drew (Below.refl _ _)).trans hb5
      have hsz5 := hb5'.size
      obtain ⟨vp', rfl, hvo5⟩ := him5
      obtain ⟨A5, c5, rfl⟩ := own_slice hvo5
      have him5 : ImIs w5 w.heap.size (.agg #[.int .i64 im.w, .int .i64 im.h, .slice A5 im.pix.length c5]) im := ⟨_, rfl, own_lower hvo5 hlw⟩
      have Him5 := Lib.hid him5
      have Hb5 := Lib.hid hb5'
      have He5 := Lib.hid (fun (b : Nat) (hb : b < wr.heap.size) => hb5'.block b hb)
      clear hvo5 him5 hb5 hb5'
      refine hK.out _ _ (fun _ => ?_) ?_
      · exact hSof _ (fun b hb hn => He5.out b hb)
      try simp only [Act.put, List.setIfInBounds_toArray, List.set_cons_zero, List.set_cons_succ]
      refine wpT_ready (rs := [13]) (by decide +kernel) (by simp) ?_
      refine AllT.cons rfl (fun K hK => ?_) AllT.nil
      go_simp
      refine hK.out _ _ (fun _ => ?_) ?_
      · exact hSof _ (fun b hb hn => (Below.block (w := w5) (B := w5.heap.size) (by repeat (first | exact Below.refl _ _ | refine Below.drew ?_ | refine Below.alloc ?_ (by first | (simp; done) | (simp; omega)) _)) b (by omega)).trans (He5.out b hb))
      try simp only [Act.put, List.setIfInBounds_toArray, List.set_cons_zero, List.set_cons_succ]
      refine wpT_ready (rs := [14]) (by decide +kernel) (by simp) ?_
      refine AllT.cons rfl (fun K hK => ?_) AllT.nil
      refine step_appK (by rfl) (.tmp 33) (.tmp 42) 48 (by rfl) 32 3 40 jj0 _ Try.underlying48 hj0 hy0 hy1 hy2 rfl (by omega) (by omega) w.heap.size vI j (flatI vs') (by rfl) _ [.int .i64 im.w, .int .i64 im.h, .slice A5 im.pix.length c5] (by rfl) (own_below (own_below HI.out Hb5.out) (by repeat (first | exact Below.refl _ _ | refine Below.drew ?_ | refine Below.alloc ?_ (by first | (simp; done) | (simp; omega)) _))) (by rfl) (World.news_of_block (cs := #[.int .i64 im.w, .int .i64 im.h, .slice A5 im.pix.length c5]) (blk_at _ _ _ (by simp))) (by simp [Value.oneCell']) (by omega) (by first | omega | (simp; done) | (simp; omega)) ?_
      intro gi2 cap2 w6 hown2 hgrow2 hat2
      have hsz6 := hgrow2.size
      (try simp only [World.size_alloc, World.size_drew] at hsz6)
      have he6 : ∀ b : Nat, b < wr.heap.size → vI.ownBlock ≠ some b → w6.heap[b]? = wr.heap[b]? := fun b hb hn => ((hgrow2.block b (by first | omega | (simp; done) | (simp; omega)) (Ne.symm hn)).trans ((Below.block (w := w5) (B := w5.heap.size) (by repeat (first | exact Below.refl _ _ | refine Below.drew ?_ | refine Below.alloc ?_ (by first | (simp; done) | (simp; omega)) _)) b (by omega)))).trans (He5.out b hb)
      have hq6 := (he6 q hlq hqp).trans Hq.out
      obtain ⟨_, _, xx2, xx3, _, _, _, yy2, yy3, _⟩ := blk5 hq6
      have hf56' : Fr w5 w6 (fun b => vI.ownBlock = some b) := Fr.grown (F := fun b => vI.ownBlock = some b) (Fr.below (w := w5) (by repeat (first | exact Below.refl _ _ | refine Below.drew ?_ | refine Below.alloc ?_ (by first | (simp; done) | (simp; omega)) _)) _) hgrow2 (fun b hb => .inl hb)
      have hf6 : Fr wr w6 (fun b => vI.ownBlock = some b) := (Fr.below Hb5.out _).trans hf56'
      have hio5 := own_below HI.out Hb5.out
      have hnp5 : ∀ b, vI.ownBlock = some b → NotPix w5 b := fun b hF => by
        obtain ⟨cs', hc'⟩ := own_typed hio5 b hF
        intro cs fr hc; rw [hc'] at hc; simp at hc
      have hnpr : ∀ b, vI.ownBlock = some b → NotPix wr b := fun b hF => by
        obtain ⟨cs', hc'⟩ := own_typed HI.out b hF
        intro cs fr hc; rw [hc'] at hc; simp at hc
      have him6 := Him5.out.frame hf56' hnp5
      have hims6 : ∀ (t : Nat) (v : Value) (i : Mo.Im), vs'[t]? = some v → (s.l.map (·.2))[t]? = some i → ImIs w6 w.heap.size v i := fun t v i h1 h2 => (Him.out t v i h1 h2).frame hf6 hnpr
      have hK6 : w6.ownsRow w.heap.size 29 5 vK (Mo.keys s).length (flatK (Mo.keys s)) := own_frame HK.out hf6 (fun b hb hF => by
        rcases HIK.out with h | h
        · exact h (hb.trans hF.symm)
        · rw [h] at hF; cases hF)
      have hb6 : Below w.heap.size w w6 := Hb.out.trans (hf6.toBelow hlw (fun b hb => (HIge.out b hb).1))
      have Hown2 := Lib.hid hown2
      have Hq6 := Lib.hid hq6
      have Him6 := Lib.hid him6
      have Hims6 := Lib.hid hims6
      have HK6 := Lib.hid hK6
      have Hb6 := Lib.hid hb6
      have He6 := Lib.hid he6
      clear hgrow2 hown2 hq6 he6 hf56' hf6 hio5 hnp5 hnpr him6 hims6 hK6 hb6 hat2
      refine hK.out _ _ (fun _ => ?_) ?_
      · exact hSof _ He6.out
      try simp only [Act.put, List.setIfInBounds_toArray, List.set_cons_zero, List.set_cons_succ]
      refine wpT_free_take (i := 15) (v := .pointer (some ⟨q, 0, none⟩)) rfl (by rfl) (by decide +kernel) (by decide +kernel) (by decide +kernel) (fun _ _ _ h => h) (Or.inl ⟨by rfl, by intro w hSw; go_simp⟩) ?_
      simp only [Act.put, List.setIfInBounds_toArray, List.set_cons_zero, List.set_cons_succ]
      refine wpT_free_take (i := 16) (v := .pointer (some ⟨q, 3, none⟩)) rfl (by rfl) (by decide +kernel) (by decide +kernel) (by decide +kernel) (fun _ _ _ h => h) (Or.inl ⟨by rfl, by intro w hSw; go_simp⟩) ?_
      simp only [Act.put, List.setIfInBounds_toArray, List.set_cons_zero, List.set_cons_succ]
      refine wpT_ready (rs := [17]) (by decide +kernel) (by simp) ?_
      refine AllT.cons rfl (fun K hK => ?_) AllT.nil
      go_simp
      refine hK.out _ _ (fun h => absurd h (by decide)) ?_
      try simp only [Act.put, List.setIfInBounds_toArray, List.set_cons_zero, List.set_cons_succ]
      refine wpT_done (by decide +kernel) ?_ _
      clear hK hSof hS0 c3 d3 e3 q0 q1 q2 xx2 xx3 yy2
      go_wp2
      go_roundw
      case rel =>
        have hq7 : vK.ownBlock ≠ some q := own_notblock HK6.out Hq6.out (by decide)
        have hi7 := own_notblock Hown2.out Hq6.out (by decide)
        refine ⟨j + 1, _, vs' ++ [.agg #[.int .i64 im.w, .int .i64 im.h, .slice A5 im.pix.length c5]], by omega, by go_num, blk_set Hq6.out 3 _, own_set HK6.out hq7 _, ?_, by simp [Hvl.out], ?_, Below.setCell Hb6.out hqw _⟩
        · rw [flatI_append]
          have : flatI [.agg #[.int .i64 im.w, .int .i64 im.h, .slice A5 im.pix.length c5]] = [.int .i64 im.w, .int .i64 im.h, .slice A5 im.pix.length c5] := by simp [flatI, icells, Value.cells]
          rw [this]
          exact own_set Hown2.out hi7 _
        · have hfr : ∀ X, Fr w6 (w6.setCell ⟨q, 3, none⟩ X) (fun b => b = q) := fun X => Fr.setCell (F := fun b => b = q) (a := ⟨q, 3, none⟩) (Fr.refl _ _) (.inl rfl) _
          have hnq : ∀ b, b = q → NotPix w6 b := by
            rintro b rfl cs fr hc
            rw [Hq6.out] at hc; simp at hc
          intro t v i h1 h2
          by_cases ht : t < vs'.length
          · rw [List.getElem?_append_left ht] at h1
            exact (Hims6.out t v i h1 h2).frame (hfr _) hnq
          · have hj2 := (List.getElem?_eq_some_iff.1 h1).1
            simp at hj2
            have hje : t = vs'.length := by omega
            subst hje
            simp at h1
            have h3 : i = im := by
              rw [Hvl.out, List.getElem?_eq_getElem hjm] at h2
              rw [Hime.out]
              exact (Option.some.inj h2).symm
            subst h1 h3
            exact Him6.out.frame (hfr _) hnq
      case measure => simp [intOf]; omega
    · have hje : j = s.l.length := by omega
      subst hje
      subst hvi
      obtain ⟨_, _, _, c3, _⟩ := blk5 hr.blk
      clear hq hK hI hvl him hb hr
      go_wp2
      go_ret
      refine ⟨q, foot q [vK.ownBlock, vI.ownBlock], rfl, ⟨hok, Nat.le_trans hB Hb.out.size, vK, vI, vs', ⟨Hq.out, ?_, own_lower HI.out hB, Hvl.out, fun t v i h1 h2 => ?_, Nat.le_trans hB hqw⟩, rfl⟩, Hb.out, ?_⟩
      · rw [← hl]; exact own_lower HK.out hB
      · obtain ⟨vp, rfl, ho⟩ := Him.out t v i h1 h2
        exact ⟨vp, rfl, own_lower ho hB⟩
      · rintro b (h | h)
        · rw [h]; exact hqw
        · simp only [List.mem_cons, List.not_mem_nil, or_false] at h
          rcases h with h | h
          · exact (HK.out.lt b h.symm).1
          · exact (HI.out.lt b h.symm).1
end Go.Proofs.Ytpdjfcnlbaaogaa
