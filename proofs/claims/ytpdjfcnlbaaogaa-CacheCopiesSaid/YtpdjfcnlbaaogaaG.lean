/- (c *Cache).evict. -/
import Derived.Test.YtpdjfcnlbaaogaaF
import Derived.Test.YtpdjfcnlbaaogaaPl
namespace Go.Proofs.Ytpdjfcnlbaaogaa
open Go.RowKit

theorem step_delete_run {P : Program} {ops : Array Oper} {o : Oper} {a : Act} {w w' : World} {K : Act → World → Prop} {Q : Exit → Act → World → Prop} {E : Prop}
    (hg : o.guard = none) (s x : Operand) (t u : TypeId) (hop : o.op = Op.call { callee := Callee.builtin Builtin.delete, args := #[s, x], argTypes := #[t, u] })
    (vs vx v : Value) (hs : a.eval s = vs) (hx : a.eval x = vx) (hrun : (Builtin.delete_ #[t, u] o.type #[vs, vx]).run P w = .ok v w') (hK : K (a.put o.dst v) w') :
    if Region.wanted o (yielded ops a.tmps) = true then Oper.wp P o a w K Q else E := by
  have hw : Region.wanted o (yielded ops a.tmps) = true := by simp [Region.wanted, hg]
  rw [if_pos hw]
  unfold Oper.wp
  simp [execOp, hop, resolve, invoke, builtin, hs, hx, hrun, Result.andThen]
  exact hK

theorem map_set {w : World} {m : Nat} {o : Obj} (h : w.heap[m]? = some o) (o' : Obj) : (ChangeMaps.setBlock w m o').heap[m]? = some o' := by
  have hlt := (Array.getElem?_eq_some_iff.1 h).1
  simp [ChangeMaps.setBlock, hlt]
theorem map_far {w : World} {m b : Nat} {o : Obj} (h : w.heap[b]? = some o) (hne : b ≠ m) (o' : Obj) : (ChangeMaps.setBlock w m o').heap[b]? = some o := by
  simp only [ChangeMaps.setBlock, Array.getElem?_setIfInBounds, Ne.symm hne, if_false]; exact h
set_option maxHeartbeats 1000000 in
theorem evict_nil (p m bn : Nat) (ev : Int) (w : World) (hp : w.heap[p]? = some (.cells #[.int .i64 bn, .map (some m), .slice none 0 0, .int .i64 ev] 47 (0, 0))) (hb : bn ≤ 1024) :
    Calls Try.prog 43 #[.pointer (some ⟨p, 0, none⟩)] w fun e w' => e = .returned (.int .i64 0) ∧ w'.heap[p]? = some (.cells #[.int .i64 bn, .map (some m), .slice none 0 0, .int .i64 (wrap64 ev)] 47 (0, 0)) ∧ Fr w w' (foot p []) := by
  obtain ⟨c0, c1, c2, c3, f0, f1, f2, f3⟩ := blk4 hp
  have hlt := (Array.getElem?_eq_some_iff.1 hp).1
  have Hp := Lib.hid hp
  clear hp
  rcases Nat.eq_zero_or_pos bn with rfl | hb0
  all_goals
    go_enter Try.func43, Try.ntmps43
    go_wp2_with fail
    go_region
    go_wp2_with fail
    go_loopw [24] (fun v wr => v = .int .i64 0 ∧ wr = w.drew) (fun _ _ => 0)
    case atStart => exact ⟨rfl, rfl⟩
    case round =>
      obtain ⟨rfl, rfl⟩ := hrel
      go_wp2_with (go_at_call 35; refine (cloneK_nil 0 0 _).mono ?_; rintro e w1 ⟨rfl, rfl⟩)
      go_ret
      exact ⟨rfl, blk_set (blk_set Hp.out 2 (.slice none 0 0)) 3 _, Fr.drew (Fr.setCell (Fr.setCell (Fr.refl _ _) (.inl (.inl rfl)) _) (.inl (.inl rfl)) _)⟩

set_option maxHeartbeats 1000000 in
theorem evict_some (B p m bn N g cap : Nat) (ev : Int) (ks : List Mo.Ky) (ms : List (Mo.Ky × Value)) (w : World) (hp : w.heap[p]? = some (.cells #[.int .i64 bn, .map (some m), .slice (some ⟨g, 0, none⟩) ks.length cap, .int .i64 ev] 47 (0, 0))) (hb : bn ≤ 1024)
    (hv : w.ownsRow B 29 5 (.slice (some ⟨g, 0, none⟩) ks.length cap) ks.length (flatK ks)) (hl : ks.length ≤ 4000) (hm : MapIs w m ms) (hN : N = ks.length - bn) :
    Calls Try.prog 43 #[.pointer (some ⟨p, 0, none⟩)] w fun e w' => e = .returned (.int .i64 N) ∧ ∃ vo', w'.heap[p]? = some (.cells #[.int .i64 bn, .map (some m), vo', .int .i64 (wrap64 (ev + N))] 47 (0, 0)) ∧ w'.ownsRow w.heap.size 29 5 vo' (ks.drop N).length (flatK (ks.drop N)) ∧ MapIs w' m (delAll (ks.take N) ms) ∧ Fr w w' (foot p [some m]) := by
  obtain ⟨c0, c1, c2, c3, f0, f1, f2, f3⟩ := blk4 hp
  have hlt := (Array.getElem?_eq_some_iff.1 hp).1
  have Hp := Lib.hid hp
  have Hv := Lib.hid hv
  have Hm := Lib.hid hm
  have hNl : N ≤ ks.length := by omega
  have hlc : ks.length ≤ cap := by
    rcases hv.2 with ⟨h, _⟩ | ⟨g', cap', cur, he, _, _, h1, _⟩
    · simp at h
    · simp at he; omega
  have hNc : N ≤ cap := by omega
  have hmlt : m < w.heap.size := by obtain ⟨es, c, h, _⟩ := hm; exact (Array.getElem?_eq_some_iff.1 h).1
  have hpm : ¬ p = m := by rintro rfl; obtain ⟨es, c, h, _⟩ := hm; rw [hp] at h; simp at h
  have hgm : ¬ (Value.slice (some ⟨g, 0, none⟩) ks.length cap).ownBlock = some m := by
    intro h; obtain ⟨cs, hc⟩ := own_typed hv m h; obtain ⟨es, c, h2, _⟩ := hm; rw [hc] at h2; simp at h2
  clear hp hv hm
  rcases Nat.lt_or_ge bn ks.length with hgt | hge
  · have he : (ks.length : Int) - (bn : Int) = (N : Int) := by omega
    have hN0 : 0 < N := by omega
    have HN := Lib.hid hN
    clear hN
    go_enter Try.func43, Try.ntmps43
    go_wp2_with fail
    go_region
    go_wp2_with fail
    go_loopw [24] (fun v wr => ∃ j : Nat, j ≤ N ∧ v = .int .i64 j ∧ MapIs wr m (delAll (ks.take j) ms) ∧ Fr w wr (fun b => b = m)) (fun v _ => N - (intOf v).toNat)
    case atStart => exact ⟨0, Nat.zero_le _, rfl, Hm.out, (Fr.refl _ _).drew⟩
    case round =>
      obtain ⟨j, hj, rfl, hmj, hfj⟩ := hrel
      have hp1 := (hfj.block p hlt hpm).trans Hp.out
      have hv1 : wr.ownsRow B 29 5 (.slice (some ⟨g, 0, none⟩) ks.length cap) ks.length (flatK ks) := own_frame Hv.out hfj (fun b hb e => hgm (by rw [← e]; exact hb))
      obtain ⟨c0', c1', c2', c3', f0', f1', f2', f3'⟩ := blk4 hp1
      clear c0 c1 c2 c3 f0 f1 f2 f3
      have Hp1 := Lib.hid hp1
      have Hv1 := Lib.hid hv1
      have Hmj := Lib.hid hmj
      have Hfj := Lib.hid hfj
      have hltp := (Array.getElem?_eq_some_iff.1 hp1).1
      clear hp1 hv1 hmj hfj
      by_cases hlt2 : j < N
      · have hjl : j < ks.length := by omega
        obtain ⟨k0, k1, k2, k3, k4⟩ := own_key Hv1.out j hjl
        have hal : Below wr.heap.size wr (wr.alloc (.cells #[.int .i64 ks[j].node, .int .i64 ks[j].stamp, .int .i64 ks[j].level, .int .i64 ks[j].x, .int .i64 ks[j].y] 29)) := Below.alloc (Below.refl _ _) (Nat.le_refl _) _
        obtain ⟨es, ck, hes, hent⟩ := Hmj.out
        obtain ⟨es', hdel, hent'⟩ := delete45 (wr.alloc (.cells #[.int .i64 ks[j].node, .int .i64 ks[j].stamp, .int .i64 ks[j].level, .int .i64 ks[j].x, .int .i64 ks[j].y] 29)).drew 0 m ks[j] es ck _ ((hal.block m (Array.getElem?_eq_some_iff.1 hes).1).trans hes) hent
        have hm' : MapIs (ChangeMaps.setBlock (wr.alloc (.cells #[.int .i64 ks[j].node, .int .i64 ks[j].stamp, .int .i64 ks[j].level, .int .i64 ks[j].x, .int .i64 ks[j].y] 29)).drew m (.map es' ck)) m (delAll (ks.take (j + 1)) ms) := by
          rw [delAll_snoc _ _ hjl]
          exact ⟨es', ck, map_set (o := .map es ck) ((hal.block m (Array.getElem?_eq_some_iff.1 hes).1).trans hes) _, hent'⟩
        have hf' : Fr w (ChangeMaps.setBlock (wr.alloc (.cells #[.int .i64 ks[j].node, .int .i64 ks[j].stamp, .int .i64 ks[j].level, .int .i64 ks[j].x, .int .i64 ks[j].y] 29)).drew m (.map es' ck)) (fun b => b = m) := Fr.setBlock (Fr.drew (Fr.alloc Hfj.out _)) (.inl rfl) _
        have Hdel := Lib.hid hdel
        have Hm' := Lib.hid hm'
        have Hf' := Lib.hid hf'
        clear hdel hm' hf' hes hent hent' hal
        go_wp2_with fail
        go_region_law (refine step_delete_run rfl (.tmp 31) (.tmp 32) 45 29 rfl (.map (some m)) (kv ks[j]) (.tuple #[]) (by rfl) (by rfl) Hdel.out ?_)
        all_goals
          go_wp2
          go_roundw
          case rel => exact ⟨j + 1, by omega, by go_num, Hm'.out, Hf'.out⟩
          case measure => simp [intOf]; exact Nat.sub_lt_sub_left hlt2 (Nat.lt_succ_self _)
      · have hjN : j = N := by omega
        have hcells : ∀ (ad : Addr), ad = (if cap = N then ⟨g, 0, none⟩ else ⟨g, N * 5, none⟩) → ∀ j u, (flatK (ks.drop N))[j]? = some u → wr.cell? (ad.add j) = some u := by
          rintro ad rfl q u hu
          by_cases e : cap = N
          · rw [List.drop_of_length_le (by omega)] at hu
            simp [flatK] at hu
          · rw [if_neg e]
            rw [flatK_drop _ _ (by omega), List.getElem?_drop] at hu
            have := Hv1.out.cells (g := g) rfl _ _ hu
            rw [addG] at this
            have e2 : (⟨g, N * 5, none⟩ : Addr).add q = ⟨g, N * 5 + q, none⟩ := by unfold Addr.add; split <;> simp_all
            rw [e2]; exact this
        have Hcells := Lib.hid hcells
        clear hcells
        have hlen : (flatK (ks.drop N)).length = (ks.length - N) * 5 := by rw [flatK_length, List.length_drop]
        have Hlen := Lib.hid hlen
        clear hlen
        by_cases hcN : cap = N
        · go_wp2_with fail
          refine (cloneK_some ⟨g, 0, none⟩ (ks.length - N) _ (flatK (ks.drop N)) _ Hlen.out (Hcells.out _ (by rw [if_pos hcN])) flatK_one (by omega)).mono ?_
          rintro e w2 ⟨v', rfl, ho, hb2⟩
          obtain ⟨A', c', rfl⟩ := own_slice ho
          have hp2 := blk_in hb2 Hp1.out
          obtain ⟨d0, d1, d2, d3, e0, e1, e2, e3⟩ := blk4 hp2
          have Hp2 := Lib.hid hp2
          clear hp2
          go_wp2
          go_ret
          refine ⟨rfl, _, blk_set (blk_set Hp2.out 2 _) 3 _, ?_, ?_, ?_⟩
          · refine own_set (own_set ?_ ?_ _) ?_ _
            · rw [List.length_drop]; exact own_lower ho Hfj.out.size
            · intro h; have := (ho.lt _ h).1; simp at this; omega
            · intro h; have := (ho.lt _ h).1; simp at this; omega
          · rw [← hjN]
            obtain ⟨es, ck, hes, hent⟩ := Hmj.out
            exact ⟨es, ck, blk_far (blk_far (blk_in hb2 hes) (Ne.symm hpm) _) (Ne.symm hpm) _, hent⟩
          · refine Fr.setCell (Fr.setCell ?_ (.inl (.inl rfl)) _) (.inl (.inl rfl)) _
            exact (Hfj.out.mono fun b hb => .inr (by simp [hb])).trans (Fr.below hb2 _)
        · go_wp2_with fail
          refine (cloneK_some ⟨g, N * 5, none⟩ (ks.length - N) _ (flatK (ks.drop N)) _ Hlen.out (Hcells.out _ (by rw [if_neg hcN])) flatK_one (by omega)).mono ?_
          rintro e w2 ⟨v', rfl, ho, hb2⟩
          obtain ⟨A', c', rfl⟩ := own_slice ho
          have hp2 := blk_in hb2 Hp1.out
          obtain ⟨d0, d1, d2, d3, e0, e1, e2, e3⟩ := blk4 hp2
          have Hp2 := Lib.hid hp2
          clear hp2
          go_wp2
          go_ret
          refine ⟨rfl, _, blk_set (blk_set Hp2.out 2 _) 3 _, ?_, ?_, ?_⟩
          · refine own_set (own_set ?_ ?_ _) ?_ _
            · rw [List.length_drop]; exact own_lower ho Hfj.out.size
            · intro h; have := (ho.lt _ h).1; simp at this; omega
            · intro h; have := (ho.lt _ h).1; simp at this; omega
          · rw [← hjN]
            obtain ⟨es, ck, hes, hent⟩ := Hmj.out
            exact ⟨es, ck, blk_far (blk_far (blk_in hb2 hes) (Ne.symm hpm) _) (Ne.symm hpm) _, hent⟩
          · refine Fr.setCell (Fr.setCell ?_ (.inl (.inl rfl)) _) (.inl (.inl rfl)) _
            exact (Hfj.out.mono fun b hb => .inr (by simp [hb])).trans (Fr.below hb2 _)
  · have he : ¬ bn < ks.length := by omega
    obtain rfl : N = 0 := by omega
    clear hN he
    have hcase : (ks.length : Int) - (bn : Int) = 0 ∨ (ks.length : Int) - (bn : Int) < 0 := by omega
    rcases hcase with hmx | hmx
    all_goals
      go_enter Try.func43, Try.ntmps43
      go_wp2_with fail
      go_region
      go_wp2_with fail
      go_loopw [24] (fun v wr => v = .int .i64 0 ∧ wr = w.drew) (fun _ _ => 0)
      case atStart => exact ⟨rfl, rfl⟩
      case round =>
        obtain ⟨rfl, rfl⟩ := hrel
        go_wp2_with fail
        refine (cloneK_some ⟨g, 0, none⟩ ks.length cap (flatK ks) w.drew (flatK_length _) (Hv.out.cells (g := g) rfl) flatK_one (by omega)).mono ?_
        rintro e w2 ⟨v', rfl, ho, hb2⟩
        obtain ⟨A', c', rfl⟩ := own_slice ho
        have hp2 := blk_in hb2 Hp.out
        obtain ⟨d0, d1, d2, d3, e0, e1, e2, e3⟩ := blk4 hp2
        have Hp2 := Lib.hid hp2
        clear hp2
        go_wp2
        go_ret
        rw [show wrap64 (ev + ((0 : Nat) : Int)) = wrap64 ev from by simp]
        refine ⟨rfl, _, blk_set (blk_set Hp2.out 2 _) 3 _, ?_, ?_, ?_⟩
        · refine own_set (own_set ?_ ?_ _) ?_ _
          · exact ho
          · intro h; have := (ho.lt _ h).1; simp at this; omega
          · intro h; have := (ho.lt _ h).1; simp at this; omega
        · obtain ⟨es, ck, hes, hent⟩ := Hm.out
          exact ⟨es, ck, blk_far (blk_far (blk_in hb2 hes) (Ne.symm hpm) _) (Ne.symm hpm) _, hent⟩
        · refine Fr.setCell (Fr.setCell ?_ (.inl (.inl rfl)) _) (.inl (.inl rfl)) _
          exact (Fr.drew (Fr.refl w _)).trans (Fr.below hb2 _)
end Go.Proofs.Ytpdjfcnlbaaogaa
