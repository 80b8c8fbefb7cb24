/- The reference's Keys and Drop. -/
import Derived.Test.YtpdjfcnlbaaogaaS
namespace Go.Proofs.Ytpdjfcnlbaaogaa
open Go.RowKit

set_option maxHeartbeats 1000000 in
theorem rkeys_row {w : World} {B p : Nat} (b0 b1 vk vi : Value) (ks : List Mo.Ky) (hp : w.heap[p]? = some (.cells #[b0, b1, vk, vi, .bool true] 50 (0, 0))) (ho : w.ownsRow B 29 5 vk ks.length (flatK ks)) (hn : ks.length ≤ 4096) :
    Calls Try.prog 14 #[.pointer (some ⟨p, 0, none⟩)] w fun e w' => ∃ v', e = .returned v' ∧ w'.ownsRow w.heap.size 29 5 v' ks.length (flatK ks) ∧ Below w.heap.size w w' := by
  have hlt := (Array.getElem?_eq_some_iff.1 hp).1
  obtain ⟨Ak, ck, rfl⟩ := own_slice ho
  have hA : 0 < ks.length → ∃ g, Ak = some ⟨g, 0, none⟩ := by
    intro hpos
    rcases ho.2 with ⟨h, h1⟩ | ⟨g, cap, cur, he, _⟩
    · omega
    · simp at he; exact ⟨g, he.1⟩
  have hbW : Below w.heap.size w (w.alloc (.cells #[] 29)) := Below.alloc (Below.refl _ _) (Nat.le_refl _) _
  have hpW := blk_in hbW hp
  have c4 := (blk5 hpW).2.2.2.2.1
  have hoW := (World.ownsRow_made (base := w.heap.size) (e := 29) (size := 5) w #[] 0 (Nat.le_refl _) (by simp [maxLen]) (by simp))
  obtain ⟨i0, hi0, hz0, hz1, hz2⟩ := info_parts info29
  have Hp := Lib.hid hp
  have Ho := Lib.hid ho
  have HA := Lib.hid hA
  have HbW := Lib.hid hbW
  have HoW := Lib.hid hoW
  clear hp ho hA hbW hpW hoW
  go_enter Try.func14, Try.ntmps14
  go_wp2_with (first
    | (go_at_call 36; refine (rmade_is p true _ c4).mono ?_; rintro e w1 ⟨rfl, rfl⟩)
    | fail)
  clear c4
  go_loopw [3, 4] (fun v3 v4 wr => ∃ j : Nat, j ≤ ks.length ∧ v4 = .int .i64 j ∧ wr.ownsRow w.heap.size 29 5 v3 j (flatK (ks.take j)) ∧ Below w.heap.size w wr) (fun _ v4 _ => ks.length - (intOf v4).toNat)
  case atStart => exact ⟨0, Nat.zero_le _, rfl, by simpa [flatK] using HoW.out, HbW.out⟩
  case round =>
    obtain ⟨j, hj, rfl, hown, hb⟩ := hrel
    obtain ⟨_, _, c2, _⟩ := blk5 (blk_in hb Hp.out)
    have hsz := hb.size
    have Hown := Lib.hid hown
    have Hb := Lib.hid hb
    clear hown hb
    by_cases hlt2 : j < ks.length
    · obtain ⟨g, rfl⟩ := HA.out (by omega)
      obtain ⟨q0, q1, q2, q3, q4⟩ := own_key (own_below Ho.out Hb.out) j hlt2
      have htk := List.take_succ_eq_append_getElem hlt2
      have Htk := Lib.hid htk
      clear htk
      go_wp2_with (at_builtin; refine wpList_append_own _ rfl (.tmp 17) (.tmp 25) 36 rfl w.heap.size 29 i0 _ 5 40 Try.underlying36 hi0 hz0 hz1 hz2 rfl (by decide) u3 j (flatK (ks.take j)) rfl (Hown.out.alloc _) ⟨wr.heap.size, 0, none⟩ 1 1 (kcells ks[j]) rfl rfl (World.news_of_block (cs := (kcells ks[j]).toArray) (t := 29) (fr := (0, 0)) (heap_alloc_new wr _)) (by simp [Value.oneCell', kcells]) (by simp [maxLen]; omega) (by omega) (by simp; omega) ?_; intro v' w2 hown2 hg2 _; obtain ⟨A2, cc2, rfl⟩ := own_slice hown2)
      have hb2 : Below w.heap.size w w2 := Below.grown (Hb.out.alloc hsz _) hg2 (by simp; omega) (fun b hb => (Hown.out.lt b hb).1)
      go_roundw
      case rel => exact ⟨j + 1, by omega, by go_num, by rw [Htk.out, flatK_append]; exact hown2, hb2⟩
      case measure => simp [intOf]; omega
    · have hjl : j = ks.length := by omega
      obtain ⟨A2, cc2, rfl⟩ := own_slice Hown.out
      have Hjl := Lib.hid hjl
      clear hjl
      go_wp2
      go_ret
      have h1 := Hown.out
      have h2 := Hjl.out
      refine ⟨_, rfl, ?_, Hb.out⟩
      rw [h2, List.take_length] at h1
      rw [h2]
      exact h1

theorem rkeys_any {w : World} {B p : Nat} {s : Mo.Ca} {F : Nat → Prop} (h : RAt w B p s F) : Calls Try.prog 14 #[.pointer (some ⟨p, 0, none⟩)] w fun e w' => ∃ v', e = .returned v' ∧ w'.ownsRow w.heap.size 29 5 v' (Mo.keys s).length (flatK (Mo.keys s)) ∧ Below w.heap.size w w' := by
  obtain ⟨hok, _, vk, vi, vs, hr, rfl⟩ := h
  have hl : (Mo.keys s).length = s.l.length := by simp [Mo.keys]
  have hk := hr.ks
  rw [← hl] at hk
  exact rkeys_row _ _ vk vi (Mo.keys s) hr.blk hk (by rw [hl]; have := hok.len; have := hok.b1; omega)

/-- The list behind the removal of all keys of a node from place t on. -/
def dropFrom (nd : Int) (t : Nat) (l : List (Mo.Ky × Mo.Im)) : List (Mo.Ky × Mo.Im) := l.take t ++ (l.drop t).filter (fun p => !(p.1.node == nd))
def cntFrom (nd : Int) (t : Nat) (l : List (Mo.Ky × Mo.Im)) : Nat := ((l.drop t).filter (fun p => p.1.node == nd)).length
theorem dropFrom_yes (nd : Int) (u : Nat) (l : List (Mo.Ky × Mo.Im)) (h : u < l.length) (hn : l[u].1.node = nd) : (dropFrom nd (u + 1) l).eraseIdx u = dropFrom nd u l := by
  unfold dropFrom
  have hl : (l.take (u + 1)).length = u + 1 := by rw [List.length_take]; omega
  rw [List.eraseIdx_append_of_lt_length (by omega)]
  have h1 : (l.take (u + 1)).eraseIdx u = l.take u := by
    rw [eraseIdx_take l u u h, if_pos rfl, List.eraseIdx_of_length_le]
    rw [List.length_take]; omega
  have h2 : l.drop u = l[u] :: l.drop (u + 1) := (List.getElem_cons_drop h).symm
  rw [h1, h2, List.filter_cons]
  simp [hn]
theorem dropFrom_no (nd : Int) (u : Nat) (l : List (Mo.Ky × Mo.Im)) (h : u < l.length) (hn : ¬ l[u].1.node = nd) : dropFrom nd (u + 1) l = dropFrom nd u l := by
  unfold dropFrom
  have h2 : l.drop u = l[u] :: l.drop (u + 1) := (List.getElem_cons_drop h).symm
  have hb : (!(l[u].1.node == nd)) = true := by simp [hn]
  rw [h2, List.filter_cons, if_pos hb, List.take_succ_eq_append_getElem h, List.append_assoc]
  rfl
theorem cntFrom_step (nd : Int) (u : Nat) (l : List (Mo.Ky × Mo.Im)) (h : u < l.length) : cntFrom nd u l = cntFrom nd (u + 1) l + if l[u].1.node = nd then 1 else 0 := by
  unfold cntFrom
  have h2 : l.drop u = l[u] :: l.drop (u + 1) := (List.getElem_cons_drop h).symm
  rw [h2, List.filter_cons]
  by_cases hn : l[u].1.node = nd
  · simp [hn]
  · have : (l[u].1.node == nd) = false := by simp [hn]
    simp [hn]
theorem dropFrom_at (nd : Int) (u : Nat) (l : List (Mo.Ky × Mo.Im)) (h : u < l.length) : ∃ hu : u < (dropFrom nd (u + 1) l).length, (dropFrom nd (u + 1) l)[u] = l[u] := by
  have hl : (l.take (u + 1)).length = u + 1 := by rw [List.length_take]; omega
  refine ⟨by unfold dropFrom; rw [List.length_append]; omega, ?_⟩
  simp only [dropFrom]
  rw [List.getElem_append_left (by omega), List.getElem_take]
theorem dropFrom_len (nd : Int) (t : Nat) (l : List (Mo.Ky × Mo.Im)) : (dropFrom nd t l).length ≤ l.length := by
  unfold dropFrom
  rw [List.length_append, List.length_take]
  have := List.length_filter_le (fun p : Mo.Ky × Mo.Im => !(p.1.node == nd)) (l.drop t)
  rw [List.length_drop] at this
  omega
theorem cntFrom_le (nd : Int) (t : Nat) (l : List (Mo.Ky × Mo.Im)) : cntFrom nd t l ≤ l.length := by
  unfold cntFrom
  have := List.length_filter_le (fun p : Mo.Ky × Mo.Im => p.1.node == nd) (l.drop t)
  rw [List.length_drop] at this
  omega

set_option maxHeartbeats 1000000 in
theorem rdrop_any {w : World} {B p : Nat} {s : Mo.Ca} {F : Nat → Prop} (h : RAt w B p s F) (nd : Int) : Calls Try.prog 29 #[.pointer (some ⟨p, 0, none⟩), .int .i64 nd] w fun e w' => e = .returned (.int .i64 ((Mo.dropped nd s : Nat) : Int)) ∧ ∃ F', RAt w' B p (Mo.drop nd s) F' ∧ Stp w w' F F' := by
  obtain ⟨hok, hB, vk, vi, vs, hr, rfl⟩ := h
  have hlen : s.l.length ≤ 4096 := by have := hok.len; have := hok.b1; omega
  obtain ⟨Ak, ck, hvk⟩ := own_slice hr.ks
  have hblk := hr.blk
  rw [hvk] at hblk
  obtain ⟨c0, c1, c2, c3, c4, f0, f1, f2, f3, f4⟩ := blk5 hblk
  have Hr := Lib.hid hr
  clear hr hblk hvk
  go_enter Try.func29, Try.ntmps29
  go_wp2_with (first
    | (go_at_call 36; refine (rmade_is p true _ c4).mono ?_; rintro e w1 ⟨rfl, rfl⟩)
    | fail)
  clear c0 c1 c2 c3 c4 f0 f1 f2 f3 f4
  go_loopw [5, 6] (fun v5 v6 wr => ∃ (t : Nat) (vk' vi' : Value) (vs' : List Value), t ≤ s.l.length ∧ v6 = .int .i64 ((t : Int) - 1) ∧ v5 = .int .i64 (cntFrom nd t s.l : Nat) ∧ RRep wr B p { s with l := dropFrom nd t s.l } vk' vi' vs' ∧ (∀ b, vk'.ownBlock = some b → vk.ownBlock = some b ∨ w.heap.size ≤ b) ∧ (∀ b, vi'.ownBlock = some b → vi.ownBlock = some b ∨ w.heap.size ≤ b) ∧ Fr w wr (foot p [])) (fun _ v6 _ => (intOf v6 + 1).toNat)
  case atStart => exact ⟨s.l.length, vk, vi, vs, Nat.le_refl _, rfl, by simp [cntFrom], by simpa [dropFrom] using Hr.out, fun b h => .inl h, fun b h => .inl h, Fr.refl _ _⟩
  case round =>
    obtain ⟨t, vk', vi', vs', ht, hv6, rfl, hr', hk, hi, hf⟩ := hrel
    have Hr' := Lib.hid hr'
    have Hk := Lib.hid hk
    have Hi := Lib.hid hi
    have Hf := Lib.hid hf
    have hsz := hf.size
    have hcl := cntFrom_le nd t s.l
    clear hr' hk hi hf
    cases t with
    | zero =>
      have hv : u6 = .int .i64 (-1) := by rw [hv6]; rfl
      subst hv
      clear hv6
      go_wp2
      go_ret
      have h1 := Hr'.out
      have e1 : dropFrom nd 0 s.l = (Mo.drop nd s).l := by simp [dropFrom, Mo.drop]
      have e2 : ({ s with l := (Mo.drop nd s).l } : Mo.Ca) = Mo.drop nd s := rfl
      rw [e1, e2] at h1
      refine ⟨by simp [cntFrom, Mo.dropped], RAt.of (ok_drop hok nd) (Nat.le_trans hB hsz) ⟨vk', vi', vs', h1, Hk.out, Hi.out⟩ (Hf.out.mono foot_wide)⟩
    | succ u =>
      have hv : u6 = .int .i64 (u : Int) := by rw [hv6]; congr 1; omega
      subst hv
      clear hv6
      have hul : u < s.l.length := by omega
      obtain ⟨hu, hue⟩ := dropFrom_at nd u s.l hul
      obtain ⟨L, hL⟩ : ∃ L, L = dropFrom nd (u + 1) s.l := ⟨_, rfl⟩
      have hLl : L.length ≤ s.l.length := by rw [hL]; exact dropFrom_len _ _ _
      have huL : u < L.length := by rw [hL]; exact hu
      have hke : (L.map (·.1))[u]'(by simpa using huL) = s.l[u].1 := by
        subst hL; simp only [List.getElem_map, hue]
      have hr1 := Hr'.out
      rw [← hL] at hr1
      obtain ⟨A, c, rfl⟩ := own_slice hr1.ks
      obtain ⟨g, rfl⟩ : ∃ g, A = some ⟨g, 0, none⟩ := by
        rcases hr1.ks.2 with ⟨h, h1⟩ | ⟨g, cap, cur, he, _⟩
        · have : L.length = 0 := h1
          omega
        · simp at he; exact ⟨g, he.1⟩
      have hlm : L.length = (L.map (·.1)).length := by simp
      have hks : wr.ownsRow B 29 5 (.slice (some ⟨g, 0, none⟩) L.length c) (L.map (·.1)).length (flatK (L.map (·.1))) := by rw [← hlm]; exact hr1.ks
      have hks' := hks
      rw [hlm] at hks'
      obtain ⟨q0, _⟩ := own_key hks' u (by simpa using huL)
      rw [hke] at q0
      obtain ⟨c0, c1, c2, c3, c4, _⟩ := blk5 hr1.blk
      have hb1 : (u : Int) < (L.length : Int) := by omega
      have H1 := Lib.hid hr1
      have HL := Lib.hid hL
      have hcs := cntFrom_step nd u s.l hul
      have Hcs := Lib.hid hcs
      clear hr1 hL hue hke hks hks' hcs hlm Hr' hu
      by_cases hnd : s.l[u].1.node = nd
      · have hd := dropFrom_yes nd u s.l hul hnd
        have hnd' : (s.l[u].1.node == nd) = true := by simpa using hnd
        have Hd := Lib.hid hd
        have Hnd := Lib.hid hnd
        clear hd hnd
        go_wp2_with fail
        refine (take_at H1.out (Nat.le_trans hB hsz) (by simp; omega) u huL H1.out.pNot).mono ?_
        rintro e w3 ⟨rfl, vk3, vi3, h3, hb3, hf3⟩
        go_wp2
        go_roundw
        case rel =>
          refine ⟨u, vk3, vi3, vs'.eraseIdx u, by omega, by go_num, ?_, ?_, fun b h => .inr (Nat.le_trans hsz (hb3 b (.inl h))), fun b h => .inr (Nat.le_trans hsz (hb3 b (.inr h))), Hf.out.trans hf3⟩
          · rw [Hcs.out, if_pos Hnd.out]; go_num
          · have : dropFrom nd u s.l = L.eraseIdx u := by rw [HL.out]; exact Hd.out.symm
            rw [this]; exact h3
        case measure => simp [intOf]
      · have hd := dropFrom_no nd u s.l hul hnd
        have hnd' : (s.l[u].1.node == nd) = false := by simpa using hnd
        have Hd := Lib.hid hd
        have Hnd := Lib.hid hnd
        clear hd hnd
        go_wp2
        go_roundw
        case rel =>
          refine ⟨u, _, vi', vs', by omega, by go_num, ?_, ?_, Hk.out, Hi.out, Hf.out⟩
          · rw [Hcs.out, if_neg Hnd.out]; rfl
          · have : dropFrom nd u s.l = L := by rw [HL.out]; exact Hd.out.symm
            rw [this]; exact H1.out
        case measure => simp [intOf]
end Go.Proofs.Ytpdjfcnlbaaogaa
