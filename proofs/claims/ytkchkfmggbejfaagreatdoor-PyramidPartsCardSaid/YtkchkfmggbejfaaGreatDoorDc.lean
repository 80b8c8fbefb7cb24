/- The program's check of one document: of the size 20 by 20, with no nodes. -/
import Derived.Test.YtkchkfmggbejfaaGreatDoorPax7
import Derived.Test.YtkchkfmggbejfaaGreatDoorPax6
import Derived.Handy
import Derived.Laws.EntriesVeiled
namespace Go.Proofs.YtkchkfmggbejfaaGreatDoor
open Go.RowKit
set_option linter.unusedSimpArgs false
set_option maxRecDepth 20000

def docv : Value := .agg #[.int .i64 20, .int .i64 20, .int .i64 0, .slice none 0 0, .int .i64 1, .int .i64 0, .int .i64 0, .slice none 0 0, .slice none 0 0, .slice none 0 0]

theorem nodes_none (w : World) : Calls Tryz.prog 64 #[docv] w fun e w' => e = .returned (.int .i64 0) ∧ Below w.heap.size w w' := by
  have hmm := @run_makeMap Tryz.prog
  unfold docv
  go_enter Tryz.func64, Tryz.ntmps64
  go_wp2
  go_rounds 1

  go_ret
  refine ⟨rfl, ?_⟩
  repeat (first | exact Below.refl _ _ | refine Below.drew ?_ | refine Below.setCell ?_ (by first | (simp; done) | (simp; omega)) _ | refine Below.alloc ?_ (by first | (simp; done) | (simp; omega)) _)

theorem clips_none (w : World) : Calls Tryz.prog 65 #[docv] w fun e w' => e = .returned (.int .i64 0) ∧ Below w.heap.size w w' := by
  have hmm := @run_makeMap Tryz.prog
  unfold docv
  go_enter Tryz.func65, Tryz.ntmps65
  go_wp2
  go_rounds 1

  go_ret
  refine ⟨rfl, ?_⟩
  repeat (first | exact Below.refl _ _ | refine Below.drew ?_ | refine Below.setCell ?_ (by first | (simp; done) | (simp; omega)) _ | refine Below.alloc ?_ (by first | (simp; done) | (simp; omega)) _)

theorem links_none (w : World) : Calls Tryz.prog 66 #[docv] w fun e w' => e = .returned (.int .i64 0) ∧ Below w.heap.size w w' := by
  have hmm := @run_makeMap Tryz.prog
  unfold docv
  go_enter Tryz.func66, Tryz.ntmps66
  go_wp2
  go_rounds 1

  go_ret
  refine ⟨rfl, ?_⟩
  repeat (first | exact Below.refl _ _ | refine Below.drew ?_ | refine Below.setCell ?_ (by first | (simp; done) | (simp; omega)) _ | refine Below.alloc ?_ (by first | (simp; done) | (simp; omega)) _)

theorem refs_none (w : World) : Calls Tryz.prog 67 #[docv] w fun e w' => e = .returned (.int .i64 0) ∧ Below w.heap.size w w' := by
  have hmm := @run_makeMap Tryz.prog
  unfold docv
  go_enter Tryz.func67, Tryz.ntmps67
  go_wp2
  go_rounds 1
  go_rounds 1
  go_ret
  refine ⟨rfl, ?_⟩
  repeat (first | exact Below.refl _ _ | refine Below.drew ?_ | refine Below.setCell ?_ (by first | (simp; done) | (simp; omega)) _ | refine Below.alloc ?_ (by first | (simp; done) | (simp; omega)) _)

theorem meta_none (w : World) : Calls Tryz.prog 70 #[.slice none 0 0] w fun e w' => e = .returned (.int .i64 0) ∧ Below w.heap.size w w' := by
  have hmm := @run_makeMap Tryz.prog

  go_enter Tryz.func70, Tryz.ntmps70
  go_wp2
  go_rounds 1

  go_ret
  refine ⟨rfl, ?_⟩
  repeat (first | exact Below.refl _ _ | refine Below.drew ?_ | refine Below.setCell ?_ (by first | (simp; done) | (simp; omega)) _ | refine Below.alloc ?_ (by first | (simp; done) | (simp; omega)) _)

theorem mask_none (w : World) : Calls Tryz.prog 69 #[.agg #[.int .i64 0, .int .i64 0, .slice none 0 0]] w fun e w' => e = .returned (.int .i64 0) ∧ Below w.heap.size w w' := by
  have hmm := @run_makeMap Tryz.prog

  go_enter Tryz.func69, Tryz.ntmps69
  go_wp2
  go_rounds 1

  go_ret
  refine ⟨rfl, ?_⟩
  repeat (first | exact Below.refl _ _ | refine Below.drew ?_ | refine Below.setCell ?_ (by first | (simp; done) | (simp; omega)) _ | refine Below.alloc ?_ (by first | (simp; done) | (simp; omega)) _)

theorem cyclic_none (w : World) : Calls Tryz.prog 68 #[docv] w fun e w' => e = .returned (.bool false) ∧ Below w.heap.size w w' := by
  have hmm := @run_makeMap Tryz.prog
  obtain ⟨i3, hi3, hzz⟩ := Option.map_eq_some_iff.1 (show (Tryz.prog.info? 3).map (fun i => (i.zero, i.size, i.bytes)) = some (some (.int .i64 0), 1, 8) by kernel_rfl)
  simp only [Prod.mk.injEq] at hzz
  obtain ⟨hz0, hz1, hz2⟩ := hzz
  obtain ⟨o, hms⟩ : ∃ o : Obj, ∀ W : World, (Instr.makeSlice 54 (.int .i64 0) (.int .i64 0)).run Tryz.prog W = .ok (.slice (some ⟨W.heap.size, 0, none⟩) 0 0) (W.alloc o) :=
    ⟨_, fun W => run_makeSlice W 54 3 i3 _ Tryz.underlying54 hi3 hz0 .i64 .i64 0 0 (by omega) (by omega) (by rw [hz1]; decide) (by omega) (by omega)⟩
  unfold docv
  go_enter Tryz.func68, Tryz.ntmps68
  go_wp2
  go_rounds 1
  go_rounds 1
  go_ret
  refine ⟨rfl, ?_⟩
  repeat (first | exact Below.refl _ _ | refine Below.drew ?_ | refine Below.setCell ?_ (by first | (simp; done) | (simp; omega)) _ | refine Below.alloc ?_ (by first | (simp; done) | (simp; omega)) _)

theorem kids_none (w : World) (g : Nat) (m : Value) (hg : w.heap[g]? = some (.cells #[.int .i64 20, .int .i64 20, .int .i64 0, .slice none 0 0, .int .i64 1, .int .i64 0, .int .i64 0, .slice none 0 0, .slice none 0 0, .slice none 0 0, m] 124 (0, 0))) : Calls Tryz.prog 87 #[.pointer (some ⟨g, 0, none⟩), .int .i64 0] w fun e w' => e = .returned (.slice none 0 0) ∧ Below w.heap.size w w' := by
  have c3 : w.cell? ⟨g, 3, none⟩ = some (.slice none 0 0) := by simp [World.cell?, hg]
  clear hg
  go_enter Tryz.func87, Tryz.ntmps87
  go_wp2
  go_rounds 1
  go_ret
  refine ⟨rfl, ?_⟩
  repeat (first | exact Below.refl _ _ | refine Below.drew ?_ | refine Below.setCell ?_ (by first | (simp; done) | (simp; omega)) _ | refine Below.alloc ?_ (by first | (simp; done) | (simp; omega)) _)

theorem canvas_doc (w : World) : Calls Tryz.prog 97 #[docv] w fun e w' => e = .returned (.agg #[.int .i64 0, .int .i64 0, .int .i64 20, .int .i64 20]) ∧ Below w.heap.size w w' := by
  unfold docv
  go_enter Tryz.func97, Tryz.ntmps97
  go_wp2
  refine bodyPost_ret (v := .agg #[.int .i64 0, .int .i64 0, .int .i64 20, .int .i64 20]) (by simp [results, Tryz.results97, go_sem]) rfl ⟨rfl, ?_⟩
  repeat (first | exact Below.refl _ _ | refine Below.drew ?_ | refine Below.setCell ?_ (by first | (simp; done) | (simp; omega)) _ | refine Below.alloc ?_ (by first | (simp; done) | (simp; omega)) _)

end Go.Proofs.YtkchkfmggbejfaaGreatDoor
