/- The small functions of the program: limits, clones, copies, the search for a key. -/
import Derived.Test.YtpdjfcnlbaaogaaMem
import Derived.BigQuiet
import Derived.Deep.QuietTactic
import Derived.Laws.NewBlocks
import Derived.Deep.RegionHeld3
import Derived.Deep.AppendLies
import Derived.Outline
import Derived.Lib.Hide
namespace Go.Proofs.Ytpdjfcnlbaaogaa
open Go.RowKit

theorem limited_any (n : Int) (w : World) : Calls Try.prog 23 #[.int .i64 n] w fun e w' => e = .returned (.int .i64 (Mo.lim n)) ∧ w = w' := by
  go_enter Try.func23, Try.ntmps23
  go_wp2
  all_goals (go_ret; refine ⟨?_, rfl⟩; simp [Mo.lim]; omega)
theorem clamp_any (n : Int) (w : World) : Calls Try.prog 24 #[.int .i64 n, .int .i64 0, .int .i64 1024] w fun e w' => e = .returned (.int .i64 (Mo.lim n)) ∧ w = w' := by
  go_enter Try.func24, Try.ntmps24
  go_wp2
  all_goals (go_ret; refine ⟨?_, rfl⟩; simp [Mo.lim]; omega)
theorem neq45 (w : World) (r : Option Nat) : (binOp .neq 45 (.map r) (.map none)).run Try.prog w = .ok (.bool !r.isNone) w :=
  run_neq_map_nil (P := Try.prog) w 45 29 32 r Try.underlying45
theorem made_yes (p m : Nat) (w : World) (h : w.cell? ⟨p, 1, none⟩ = some (.map (some m))) : Calls Try.prog 34 #[.pointer (some ⟨p, 0, none⟩)] w fun e w' => e = .returned (.bool true) ∧ w = w' := by
  have q := neq45
  go_enter Try.func34, Try.ntmps34
  go_wp2
  go_ret
  exact ⟨rfl, rfl⟩
theorem made_zero (p : Nat) (w : World) (h : w.cell? ⟨p, 1, none⟩ = some (.map none)) : Calls Try.prog 34 #[.pointer (some ⟨p, 0, none⟩)] w fun e w' => e = .returned (.bool false) ∧ w = w' := by
  have q := neq45
  go_enter Try.func34, Try.ntmps34
  go_wp2
  go_ret
  exact ⟨rfl, rfl⟩
theorem made_nil (w : World) : Calls Try.prog 34 #[.pointer none] w fun e w' => e = .returned (.bool false) ∧ w = w' := by
  go_enter Try.func34, Try.ntmps34
  go_wp2
  go_ret
  exact ⟨rfl, rfl⟩
theorem rmade_is (p : Nat) (b : Bool) (w : World) (h : w.cell? ⟨p, 4, none⟩ = some (.bool b)) : Calls Try.prog 36 #[.pointer (some ⟨p, 0, none⟩)] w fun e w' => e = .returned (.bool b) ∧ w = w' := by
  go_enter Try.func36, Try.ntmps36
  go_wp2
  go_ret
  exact ⟨rfl, rfl⟩
theorem rmade_nil (w : World) : Calls Try.prog 36 #[.pointer none] w fun e w' => e = .returned (.bool false) ∧ w = w' := by
  go_enter Try.func36, Try.ntmps36
  go_wp2
  go_ret
  exact ⟨rfl, rfl⟩
theorem eql36 (w : World) (A : Option Addr) (n c : Nat) : (binOp .eql 36 (.slice A n c) (.slice none 0 0)).run Try.prog w = .ok (.bool A.isNone) w :=
  Lib.run_eql_slice_nil (P := Try.prog) w 36 29 A n c 0 0 Try.underlying36
theorem eql30 (w : World) (A : Option Addr) (n c : Nat) : (binOp .eql 30 (.slice A n c) (.slice none 0 0)).run Try.prog w = .ok (.bool A.isNone) w :=
  Lib.run_eql_slice_nil (P := Try.prog) w 30 63 A n c 0 0 Try.underlying30
theorem info29 : (Try.prog.info? 29).map (fun i => (i.zero, i.size, i.bytes)) = some (some (.agg #[.int .i64 0, .int .i64 0, .int .i64 0, .int .i64 0, .int .i64 0]), 5, 40) := by kernel_rfl
theorem info63 : (Try.prog.info? 63).map (fun i => (i.zero, i.size, i.bytes)) = some (some (.agg #[.int .i64 0, .int .i64 0, .int .i64 0, .int .i64 0]), 4, 32) := by kernel_rfl
theorem info32 : (Try.prog.info? 32).map (fun i => (i.zero, i.size, i.bytes)) = some (some (.agg #[.int .i64 0, .int .i64 0, .slice none 0 0]), 3, 40) := by kernel_rfl
theorem cloneK_nil (n c : Nat) (w : World) : Calls Try.prog 35 #[.slice none n c] w fun e w' => e = .returned (.slice none 0 0) ∧ w = w' := by
  have q := eql36
  go_enter Try.func35, Try.ntmps35
  go_wp2
  go_ret
  exact ⟨rfl, rfl⟩
theorem cloneP_nil (n c : Nat) (w : World) : Calls Try.prog 46 #[.slice none n c] w fun e w' => e = .returned (.slice none 0 0) ∧ w = w' := by
  have q := eql30
  go_enter Try.func46, Try.ntmps46
  go_wp2
  go_ret
  exact ⟨rfl, rfl⟩
theorem cloneK_some (ad : Addr) (n c : Nat) (xs : List Value) (w : World) (hl : xs.length = n * 5) (hc : ∀ j u, xs[j]? = some u → w.cell? (ad.add j) = some u) (h1 : ∀ u ∈ xs, u.oneCell' = true) (hn : n * 40 ≤ 140737488355328) :
    Calls Try.prog 35 #[.slice (some ad) n c] w fun e w' => ∃ v', e = .returned v' ∧ w'.ownsRow w.heap.size 29 5 v' n xs ∧ Below w.heap.size w w' := by
  have q := eql36
  obtain ⟨i0, hi, hz0, hz1, hz2⟩ := info_parts info29
  have hc' := Lib.hid hc
  clear hc
  go_enter Try.func35, Try.ntmps35
  go_wp2_with (at_builtin; refine wpList_append_own _ rfl (.tmp 5) (.tmp 6) 36 rfl w.heap.size 29 i0 _ 5 40 Try.underlying36 hi hz0 hz1 hz2 rfl (by decide) (.slice (some ⟨w.heap.size, 0, none⟩) 0 0) 0 [] rfl (World.ownsRow_made w #[] 0 (Nat.le_refl _) (by simp [maxLen]) (by simp)) ad n c xs rfl hl (fun j u hu => by have := hc'.out j u hu; exact (Below.cell (Below.alloc (Below.refl _ _) (Nat.le_refl _) _) (World.block_lt_of_cell? w _ this)).trans this) h1 (by simp [maxLen]; omega) (by omega) (by simp) ?_; intro v' w1 hown hg _)
  go_ret
  refine ⟨_, rfl, by simpa using hown, ?_⟩
  exact (Below.alloc (Below.refl _ _) (Nat.le_refl _) _).grown hg (by simp) (fun k hk => by simp [Value.ownBlock] at hk; omega)
theorem cloneP_some (ad : Addr) (n c : Nat) (xs : List Value) (w : World) (hl : xs.length = n * 4) (hc : ∀ j u, xs[j]? = some u → w.cell? (ad.add j) = some u) (h1 : ∀ u ∈ xs, u.oneCell' = true) (hn : n * 32 ≤ 140737488355328) :
    Calls Try.prog 46 #[.slice (some ad) n c] w fun e w' => ∃ v', e = .returned v' ∧ w'.ownsRow w.heap.size 63 4 v' n xs ∧ Below w.heap.size w w' := by
  have q := eql30
  obtain ⟨i0, hi, hz0, hz1, hz2⟩ := info_parts info63
  have hc' := Lib.hid hc
  clear hc
  go_enter Try.func46, Try.ntmps46
  go_wp2_with (at_builtin; refine wpList_append_own _ rfl (.tmp 5) (.tmp 6) 30 rfl w.heap.size 63 i0 _ 4 32 Try.underlying30 hi hz0 hz1 hz2 rfl (by decide) (.slice (some ⟨w.heap.size, 0, none⟩) 0 0) 0 [] rfl (World.ownsRow_made w #[] 0 (Nat.le_refl _) (by simp [maxLen]) (by simp)) ad n c xs rfl hl (fun j u hu => by have := hc'.out j u hu; exact (Below.cell (Below.alloc (Below.refl _ _) (Nat.le_refl _) _) (World.block_lt_of_cell? w _ this)).trans this) h1 (by simp [maxLen]; omega) (by omega) (by simp) ?_; intro v' w1 hown hg _)
  go_ret
  refine ⟨_, rfl, by simpa using hown, ?_⟩
  exact (Below.alloc (Below.refl _ _) (Nat.le_refl _) _).grown hg (by simp) (fun k hk => by simp [Value.ownBlock] at hk; omega)

theorem own_lower {w : World} {B B' : Nat} {e : TypeId} {size n : Nat} {v : Value} {xs : List Value} (h : w.ownsRow B e size v n xs) (hb : B' ≤ B) : w.ownsRow B' e size v n xs := by
  refine ⟨h.1, ?_⟩
  rcases h.2 with hn | ⟨g, cap, cur, hv, hg, rest⟩
  · exact .inl hn
  · exact .inr ⟨g, cap, cur, hv, by omega, rest⟩

/-- A clone of a row of keys of the call's own. -/
theorem cloneK_own (B : Nat) (v : Value) (n : Nat) (ks : List Mo.Ky) (w : World) (h : w.ownsRow B 29 5 v n (flatK ks)) (hn : n ≤ 4096) :
    Calls Try.prog 35 #[v] w fun e w' => ∃ v', e = .returned v' ∧ w'.ownsRow w.heap.size 29 5 v' n (flatK ks) ∧ Below w.heap.size w w' := by
  rcases h.2 with ⟨rfl, rfl⟩ | ⟨g, cap, cur, rfl, hb, hg, h1, h2, h3, h4⟩
  · have hk : flatK ks = [] := List.eq_nil_of_length_eq_zero (by simpa using h.1)
    refine (cloneK_nil 0 0 w).mono ?_
    rintro e w' ⟨rfl, rfl⟩
    exact ⟨_, rfl, by rw [hk]; exact World.ownsRow_nil _ _ _ _, Below.refl _ _⟩
  · exact cloneK_some ⟨g, 0, none⟩ n cap _ w h.1 (h.cells (g := g) rfl) flatK_one (by omega)

theorem cloneP_in (A : Option Addr) (n c : Nat) (xs : List Mo.Px) (w : World) (h : PixIn w A n xs) :
    Calls Try.prog 46 #[.slice A n c] w fun e w' => ∃ v', e = .returned v' ∧ w'.ownsRow w.heap.size 63 4 v' xs.length (flatP xs) ∧ Below w.heap.size w w' := by
  obtain ⟨rfl, hn, h0, hc⟩ := h
  cases A with
  | none =>
    have hx : xs = [] := List.eq_nil_of_length_eq_zero (h0 rfl)
    subst hx
    refine (cloneP_nil _ _ w).mono ?_
    rintro e w' ⟨rfl, rfl⟩
    exact ⟨_, rfl, World.ownsRow_nil _ _ _ _, Below.refl _ _⟩
  | some ad => exact cloneP_some ad _ c _ w (flatP_length xs) (hc ad rfl) flatP_one hn

theorem copied_in (v : Value) (i : Mo.Im) (w : World) (h : InIm w v i) :
    Calls Try.prog 38 #[v] w fun e w' => ∃ v', e = .returned v' ∧ ImIs w' w.heap.size v' i ∧ Below w.heap.size w w' := by
  obtain ⟨A, n, c, rfl, h⟩ := h
  go_enter Try.func38, Try.ntmps38
  go_wp2_with fail
  refine (cloneP_in A n c i.pix _ ((h.alloc _).alloc _)).mono ?_
  rintro e w' ⟨v', rfl, ho, hb⟩
  obtain ⟨A', c', rfl⟩ := own_slice ho
  obtain ⟨c0, c1, c2, f0, f1, f2⟩ := blk3 (blk_in hb (blk_alloc _ (blk_new w _)))
  obtain ⟨d0, d1, d2, g0, g1, g2⟩ := blk3 (blk_in hb (blk_new (w.alloc _) _))
  have hz := hb.size
  simp only [World.size_alloc] at d0 d1 d2 g0 g1 g2 hz
  go_wp2
  refine bodyPost_ret (v := .agg #[.int .i64 i.w, .int .i64 i.h, .slice A' i.pix.length c']) (by simp [results, Try.results38, go_sem, *]) rfl ⟨_, rfl, ?_, ?_⟩
  · refine ⟨_, rfl, own_lower (ownsRow_setCell_below (ownsRow_setCell_below (ownsRow_setCell_below (ownsRow_setCell_below ho ?_ _) ?_ _) ?_ _) ?_ _) ?_⟩ <;> simp <;> omega
  · refine Below.setCell (Below.setCell (Below.setCell (Below.setCell ?_ ?_ _) ?_ _) ?_ _) ?_ _
    · exact (((Below.refl _ _).alloc (Nat.le_refl _) _).alloc (by simp) _).trans (hb.mono (by simp; omega))
    all_goals simp
end Go.Proofs.Ytpdjfcnlbaaogaa
