/- (c *Cache).Copy. -/
import Derived.Test.YtpdjfcnlbaaogaaL
import Derived.Shelf.SlMaps.Clone
namespace Go.Proofs.Ytpdjfcnlbaaogaa
open Go.RowKit

theorem mclone_any (m : Nat) (es : Array MapEntry) (ck : Nat) (w : World) (hb : w.heap[m]? = some (.map es ck)) :
    Calls Try.prog 39 #[.map (some m)] w fun e w' => e = .returned (.map (some w.heap.size)) ∧ w' = w.alloc (.map es ck) := by
  have hq := fun w => run_eql_map_nil_sl (P := Try.prog) w 45 _ _ (some m) Try.underlying45
  go_enter Try.func39, Try.ntmps39
  go_wp2
  rw [run_callFunc_extern Try.func47 (by kernel_rfl) (by kernel_rfl) (by kernel_rfl) (e := Extern.MapsClone.clone) (by kernel_rfl), run_maps_clone_sl w 45 hb]
  simp only [Result.andThen]
  rw [Oper.upon_value]
  go_wp2
  rw [run_typeAssert_map_sl _ 45 20 _ _ _ Try.underlying45]
  simp only [Result.andThen]
  rw [Oper.upon_value]
  go_wp2
  go_ret
  exact ⟨rfl, rfl⟩

set_option maxHeartbeats 400000 in
theorem copy_any {w : World} {B p : Nat} {s : Mo.Ca} {F : Nat → Prop} (h : CAt w B p s F) : Calls Try.prog 21 #[.pointer (some ⟨p, 0, none⟩)] w fun e w' => ∃ q G, e = .returned (.pointer (some ⟨q, 0, none⟩)) ∧ CAt w' B q s G ∧ Below w.heap.size w w' ∧ ∀ b, G b → w.heap.size ≤ b := by
  obtain ⟨hok, hB, m, vo, ms, hr, hFe⟩ := h
  obtain ⟨c0, c1, c2, c3, f0, f1, f2, f3⟩ := blk4 hr.blk
  have hlt := (Array.getElem?_eq_some_iff.1 hr.blk).1
  have hlt1 : p < w.heap.size + 1 := by omega
  have ho := hr.ord
  have hl : (Mo.keys s).length = s.l.length := by simp [Mo.keys]
  rw [← hl] at ho
  have hn : (Mo.keys s).length ≤ 4096 := by have := hok.len; have := hok.b1; omega
  obtain ⟨es, ck, hes, hent⟩ := hr.map
  have ho1 := own_below (own_frame (w' := w.drew) ho ((Fr.refl w Nof).drew) (fun _ _ h => h)) (Below.alloc (Below.refl w.drew.heap.size w.drew) (Nat.le_refl _) (.map es ck))
  have Hr := Lib.hid hr
  have Hl := Lib.hid hl
  have Hes := Lib.hid hes
  have Hen := Lib.hid hent
  have Ho1 := Lib.hid ho1
  clear hr hl hes hent ho ho1 hFe f0 f1 f2 f3
  go_enter Try.func21, Try.ntmps21
  go_wp2_with (first
    | (go_at_call 34; refine (made_yes p m _ c1).mono ?_; rintro e w1 ⟨rfl, rfl⟩)
    | fail)
  go_region_held3 (fun w' => w'.cell? ⟨p, 0, none⟩ = some (.int .i64 s.bud) ∧ w'.cell? ⟨p, 1, none⟩ = some (.map (some m)) ∧ w'.cell? ⟨p, 2, none⟩ = some vo ∧ w'.cell? ⟨p, 3, none⟩ = some (.int .i64 s.ev))
    (first
      | go_keep
      | exact Hk.out)
    (first
      | (go_at_call 39; refine (mclone_any m es ck w.drew Hes.out).mono ?_; rintro e w1 ⟨rfl, rfl⟩)
      | (go_at_call 35; refine (cloneK_own B vo _ _ _ Ho1.out hn).mono ?_; rintro e w2 ⟨v', rfl, ho2, hb2⟩
         obtain ⟨A', c', rfl⟩ := own_slice ho2
         have hp2 := blk_in hb2 (blk_alloc (w := w.drew) _ Hr.out.blk)
         have Hk := Lib.hid (⟨(blk4 hp2).1, (blk4 hp2).2.1, (blk4 hp2).2.2.1, (blk4 hp2).2.2.2.1⟩ : w2.cell? ⟨p, 0, none⟩ = some (.int .i64 s.bud) ∧ w2.cell? ⟨p, 1, none⟩ = some (.map (some m)) ∧ w2.cell? ⟨p, 2, none⟩ = some vo ∧ w2.cell? ⟨p, 3, none⟩ = some (.int .i64 s.ev))
         clear hp2))
  go_wp2
  go_ret
  have hbw : Below w.heap.size w w2 := (Below.drew (Below.refl w.heap.size w)).trans ((Below.alloc (Below.refl w.heap.size w.drew) (Nat.le_refl _) (.map es ck)).trans (hb2.mono (by simp)))
  have hs2 := hb2.size
  simp only [World.size_alloc] at hs2
  have hs3 : w.heap.size + 1 ≤ w2.heap.size := hs2
  have hfin : Below w.heap.size w (w2.alloc (.cells #[.int .i64 s.bud, .map (some w.heap.size), .slice A' (Mo.keys s).length c', .int .i64 s.ev] 47)) := hbw.alloc hbw.size _
  have hbl : w2.heap[w.heap.size]? = some (.map es ck) := blk_in hb2 (blk_new w.drew _)
  have ho3 := ho2.alloc (.cells #[.int .i64 s.bud, .map (some w.heap.size), .slice A' (Mo.keys s).length c', .int .i64 s.ev] 47)
  refine ⟨w2.heap.size, _, rfl, ⟨hok, Nat.le_trans hB hfin.size, w.heap.size, .slice A' (Mo.keys s).length c', ms, ⟨blk_new w2 _, ⟨es, ck, blk_alloc _ hbl, Hen.out⟩, ?_, Hr.out.nd, fun k => (Hr.out.ims k).frame (Fr.below hfin Nof) (fun _ h => h.elim), Nat.le_trans hB hbw.size, hB⟩, rfl⟩, hfin, ?_⟩
  · rw [← Hl.out]
    exact own_lower ho3 (Nat.le_trans hB (by rw [World.size_alloc]; exact Nat.le_succ w.heap.size))
  · rintro b (h | h)
    · rw [h]; exact hbw.size
    · simp only [List.mem_cons, Option.some.injEq, List.not_mem_nil, or_false] at h
      rcases h with h | h
      · omega
      · have := (ho2.lt b h.symm).1
        simp only [World.size_alloc] at this
        have h4 : w.heap.size + 1 ≤ b := this
        omega
end Go.Proofs.Ytpdjfcnlbaaogaa
