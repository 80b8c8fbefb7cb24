/- slices.Delete of one key of an own row. -/
import Derived.Test.YtpdjfcnlbaaogaaC
import Derived.Deep.RegionLaw
namespace Go.Proofs.Ytpdjfcnlbaaogaa
open Go.RowKit

theorem step_append_run {P : Program} {ops : Array Oper} {o : Oper} {a : Act} {w w' : World} {K : Act → World → Prop} {Q : Exit → Act → World → Prop} {E : Prop}
    (hg : o.guard = none) (s x : Operand) (t : TypeId) (hop : o.op = Op.call { callee := Callee.builtin Builtin.append, args := #[s, x], argTypes := #[t, t] })
    (vs vx v : Value) (hs : a.eval s = vs) (hx : a.eval x = vx) (hrun : (Builtin.append_ #[t, t] o.type #[vs, vx]).run P w = .ok v w') (hK : K (a.put o.dst v) w') :
    if Region.wanted o (yielded ops a.tmps) = true then Oper.wp P o a w K Q else E := by
  have hw : Region.wanted o (yielded ops a.tmps) = true := by simp [Region.wanted, hg]
  rw [if_pos hw]
  unfold Oper.wp
  simp [execOp, hop, resolve, invoke, builtin, hs, hx, hrun, Result.andThen]
  exact hK

theorem flatK_take (l : List Mo.Ky) (i : Nat) (hi : i ≤ l.length) : flatK (l.take i) = (flatK l).take (i * 5) := by
  have h1 : flatK l = flatK (l.take i) ++ flatK (l.drop i) := by rw [← flatK_append, List.take_append_drop]
  have h2 : (flatK (l.take i)).length = i * 5 := by rw [flatK_length, List.length_take]; congr 1; omega
  rw [h1, ← h2, List.take_left]
theorem flatK_drop (l : List Mo.Ky) (i : Nat) (hi : i ≤ l.length) : flatK (l.drop i) = (flatK l).drop (i * 5) := by
  have h1 : flatK l = flatK (l.take i) ++ flatK (l.drop i) := by rw [← flatK_append, List.take_append_drop]
  have h2 : (flatK (l.take i)).length = i * 5 := by rw [flatK_length, List.length_take]; congr 1; omega
  rw [h1, ← h2, List.drop_left]

theorem clear36 (W : World) (g N m c : Nat) (cur : Array Value) (hg : W.heap[g]? = some (.cells cur 29 (0, 0))) (hm : m = 1) (hfit : N * 5 + 5 ≤ cur.size) :
    ∃ new, (Builtin.clear_ #[36] 0 #[.slice (some ⟨g, N * 5, none⟩) m c]).run Try.prog W = .ok (.tuple #[]) (W.setRow g new) ∧ new.size = cur.size ∧ new.toList.take (N * 5) = cur.toList.take (N * 5) := by
  subst hm
  have hz : (zeroValue 29).run Try.prog W = .ok (.agg #[.int .i64 0, .int .i64 0, .int .i64 0, .int .i64 0, .int .i64 0]) W := by kernel_rfl
  have hst := run_storeCells_at Try.prog g (N * 5) 29 [.int .i64 0, .int .i64 0, .int .i64 0, .int .i64 0, .int .i64 0] 0 cur W hg (by simpa using hfit) (by simp [Value.oneCell'])
  have hzc : (Builtin.zeroCells #[.int .i64 0, .int .i64 0, .int .i64 0, .int .i64 0, .int .i64 0] 1).toList = [.int .i64 0, .int .i64 0, .int .i64 0, .int .i64 0, .int .i64 0] := by kernel_rfl
  refine ⟨(cur.toList.take (N * 5) ++ [Value.int .i64 0, .int .i64 0, .int .i64 0, .int .i64 0, .int .i64 0] ++ cur.toList.drop (N * 5 + 5)).toArray, ?_, ?_, ?_⟩
  · simp only [Builtin.clear_, Sem.run_bind, run_underlying Try.underlying36, Result.andThen_ok, hz, List.getElem?_toArray, List.getElem?_cons_zero]
    show ((storeCells ⟨g, N * 5, none⟩ (Builtin.zeroCells #[.int .i64 0, .int .i64 0, .int .i64 0, .int .i64 0, .int .i64 0] 1).toList).run Try.prog W).andThen _ = _
    rw [hzc, hst]
    rfl
  · simp; omega
  · simp only [List.append_assoc]
    rw [List.take_append_of_le_length (by simp; omega), List.take_take, Nat.min_self]

set_option maxHeartbeats 2000000 in
theorem delete_some (B g n cap i : Nat) (ks : List Mo.Ky) (w : World) (h : w.ownsRow B 29 5 (.slice (some ⟨g, 0, none⟩) n cap) n (flatK ks)) (hl : ks.length = n) (hn : n ≤ 4096) (hi : i < n) :
    Calls Try.prog 50 #[.slice (some ⟨g, 0, none⟩) n cap, .int .i64 i, .int .i64 ((i : Int) + 1)] w fun e w' => e = .returned (.slice (some ⟨g, 0, none⟩) (n - 1) cap) ∧ w'.ownsRow B 29 5 (.slice (some ⟨g, 0, none⟩) (n - 1) cap) (n - 1) (flatK (ks.eraseIdx i)) ∧ Fr w w' (fun b => b = g) := by
  rcases h.2 with ⟨hbad, _⟩ | ⟨g', cap', cur, he, hbg, hg, hcap, hmax, hsz, htk⟩
  · simp at hbad
  simp only [Value.slice.injEq, Option.some.injEq, Addr.mk.injEq, and_true, true_and] at he
  obtain ⟨rfl, rfl⟩ := he
  have hic : i ≤ cap := by omega
  have hic2 : (0 : Int) ≤ (i : Int) + 1 := by omega
  have hic3 : (i : Int) + 1 ≤ (n : Int) := by omega
  obtain ⟨A, hA, hN⟩ : ∃ A : Addr, (if cap = i + 1 then some (⟨g, 0, none⟩ : Addr) else some ⟨g, (i + 1) * 5, none⟩) = some A ∧ (∀ j u, (flatK (ks.drop (i + 1)))[j]? = some u → w.cell? (A.add j) = some u) := by
    by_cases e : cap = i + 1
    · refine ⟨⟨g, 0, none⟩, by simp [e], fun j u hu => ?_⟩
      rw [List.drop_of_length_le (by omega)] at hu
      simp [flatK] at hu
    · refine ⟨⟨g, (i + 1) * 5, none⟩, by simp [e], fun j u hu => ?_⟩
      rw [flatK_drop _ _ (by omega), List.getElem?_drop] at hu
      have := h.cells (g := g) rfl _ _ hu
      rw [addG] at this
      have e2 : (⟨g, (i + 1) * 5, none⟩ : Addr).add j = ⟨g, (i + 1) * 5 + j, none⟩ := by unfold Addr.add; split <;> simp_all
      rw [e2]; exact this
  obtain ⟨i0, hi0, hz0, hz1, hz2⟩ := info_parts info29
  have hnl : (flatK (ks.drop (i + 1))).length = (n - (i + 1)) * i0.size := by rw [flatK_length, List.length_drop, hz1, hl]
  have hrun := run_append_room (P := Try.prog) w.drew 36 36 29 i0 Try.underlying36 hi0 g i cap cur hg A (n - (i + 1)) (cap - (i + 1)) (flatK (ks.drop (i + 1))) hnl hN flatK_one (by omega) (by rw [hnl, hz1, hsz, ← Nat.add_mul]; exact Nat.mul_le_mul_right _ (by omega))
  obtain ⟨new, hnew⟩ : ∃ new, new = (cur.toList.take (i * i0.size) ++ flatK (ks.drop (i + 1)) ++ cur.toList.drop (i * i0.size + (flatK (ks.drop (i + 1))).length)).toArray := ⟨_, rfl⟩
  rw [← hnew] at hrun
  have hns : new.size = cur.size := by
    rw [hnew]; simp only [List.size_toArray, List.length_append, List.length_take, List.length_drop, Array.length_toList, hnl, hz1, hsz]
    have : (n - (i + 1)) * 5 + i * 5 ≤ cap * 5 := by rw [← Nat.add_mul]; exact Nat.mul_le_mul_right _ (by omega)
    have : i * 5 ≤ cap * 5 := Nat.mul_le_mul_right _ (by omega)
    omega
  have hh1 := setRow_heap w.drew g cur new 29 (0, 0) hg
  obtain ⟨N, hN1⟩ : ∃ N, N = i + (n - (i + 1)) := ⟨_, rfl⟩
  rw [← hN1] at hrun
  have hNn : N + 1 = n := by omega
  obtain ⟨new2, hclr, hs2, ht2⟩ := clear36 (w.drew.setRow g new) g N (n - N) (cap - N) new hh1 (by omega) (by rw [hns, hsz]; omega)
  have hh2 := setRow_heap (w.drew.setRow g new) g new new2 29 (0, 0) hh1
  have hcN : ¬ cap = N := by omega
  have hNi : (N : Int) ≤ (n : Int) := by omega
  have hfin : ((w.drew.setRow g new).setRow g new2).ownsRow B 29 5 (.slice (some ⟨g, 0, none⟩) (n - 1) cap) (n - 1) (flatK (ks.eraseIdx i)) := by
    refine ⟨by rw [flatK_length, List.length_eraseIdx]; simp [hl, hi], .inr ⟨g, cap, new2, rfl, hbg, hh2, by omega, hmax, by rw [hs2, hns, hsz], ?_⟩⟩
    rw [show n - 1 = N from by omega, ht2, hnew]
    rw [List.eraseIdx_eq_take_drop_succ, flatK_append, flatK_take _ _ (by omega), ← htk]
    rw [List.take_append_of_le_length, List.take_of_length_le]
    · rw [hz1, List.take_take, Nat.min_eq_left (by omega)]
    · simp only [List.length_append, List.length_take, hnl, hz1, Array.length_toList, hsz]; omega
    · simp only [List.length_append, List.length_take, hnl, hz1, Array.length_toList, hsz]; omega
  have hfr : Fr w ((w.drew.setRow g new).setRow g new2) (fun b => b = g) :=
    ⟨rfl, rfl, rfl, by simp only [World.setRow, Array.size_modify]; exact Nat.le_refl _, fun k _ hk => by rw [setRow_other _ _ _ _ hk, setRow_other _ _ _ _ hk]; rfl⟩
  have Hrun := Lib.hid hrun
  have Hclr := Lib.hid hclr
  have Hfin := Lib.hid hfin
  have Hfr := Lib.hid hfr
  have HN1 := Lib.hid hN1
  clear hrun hnew hnl hN h hclr hfin hfr htk hl hh1 hh2 hg hns hs2 ht2 hsz hNn hN1
  go_enter Try.func50, Try.ntmps50
  go_wp2_with fail
  go_region_law (refine step_append_run rfl (.tmp 22) (.tmp 25) 36 rfl (.slice (some ⟨g, 0, none⟩) i cap) (.slice (some A) (n - (i + 1)) (cap - (i + 1))) (.slice (some ⟨g, 0, none⟩) N cap) (by rfl) (by rfl) Hrun.out ?_)
  have hclr := Hclr.out
  go_wp2
  all_goals (go_ret; exact ⟨by rw [HN1.out] at *; rw [show n - 1 = i + (n - (i + 1)) from by omega]; rfl, Hfin.out, Hfr.out⟩)
end Go.Proofs.Ytpdjfcnlbaaogaa
