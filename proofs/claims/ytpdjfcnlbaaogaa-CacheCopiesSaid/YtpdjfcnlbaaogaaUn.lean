/- The methods of caches that are nil or were not made, of the program's and of the reference's. -/
import Derived.Test.YtpdjfcnlbaaogaaY
namespace Go.Proofs.Ytpdjfcnlbaaogaa
open Go.RowKit
set_option linter.unusedSimpArgs false
set_option maxRecDepth 20000

/-- The program's 'made' answers false, now and later. -/
def MadeNot (w : World) (v : Value) : Prop := ∀ w', Below w.heap.size w w' → Calls Try.prog 34 #[v] w' fun e w1 => e = .returned (.bool false) ∧ w' = w1
/-- The reference's 'made' answers false, now and later. -/
def RMadeNot (w : World) (v : Value) : Prop := ∀ w', Below w.heap.size w w' → Calls Try.prog 36 #[v] w' fun e w1 => e = .returned (.bool false) ∧ w' = w1
theorem MadeNot.below {w w' : World} {v : Value} (h : MadeNot w v) (hb : Below w.heap.size w w') : MadeNot w' v := fun w2 h2 => h w2 (hb.trans (h2.mono hb.size))
theorem RMadeNot.below {w w' : World} {v : Value} (h : RMadeNot w v) (hb : Below w.heap.size w w') : RMadeNot w' v := fun w2 h2 => h w2 (hb.trans (h2.mono hb.size))
theorem MadeNot.nil (w : World) : MadeNot w (.pointer none) := fun w' _ => made_nil w'
theorem RMadeNot.nil (w : World) : RMadeNot w (.pointer none) := fun w' _ => rmade_nil w'
theorem MadeNot.zero {w : World} {p : Nat} {a b c : Value} (h : w.heap[p]? = some (.cells #[a, .map none, b, c] 47 (0, 0))) : MadeNot w (.pointer (some ⟨p, 0, none⟩)) := fun w' hb => made_zero p w' (blk4 (blk_in hb h)).2.1
theorem RMadeNot.zero {w : World} {p : Nat} {a b c d : Value} (h : w.heap[p]? = some (.cells #[a, b, c, d, .bool false] 50 (0, 0))) : RMadeNot w (.pointer (some ⟨p, 0, none⟩)) := fun w' hb => rmade_is p false w' (blk5 (blk_in hb h)).2.2.2.2.1

theorem no_get {w : World} {v : Value} (hm : MadeNot w v) (k : Mo.Ky) : Calls Try.prog 19 #[v, kv k] w fun e w' => e = .returned (.tuple #[zeroIm, .bool false]) ∧ Below w.heap.size w w' := by
  have hrb : ((w.alloc (.cells #[.int .i64 k.node, .int .i64 k.stamp, .int .i64 k.level, .int .i64 k.x, .int .i64 k.y] 29)).alloc (.cells #[.int .i64 0, .int .i64 0, .slice none 0 0] 32)).heap[w.heap.size + 1]? = some (.cells #[.int .i64 0, .int .i64 0, .slice none 0 0] 32 (0, 0)) := blk_at _ _ _ (by simp)
  obtain ⟨r0, r1, r2, y0, y1, y2⟩ := blk3 hrb
  unfold kv
  go_enter Try.func19, Try.ntmps19
  go_wp2_with (go_at_call 34; refine (hm _ (by repeat (first | exact Below.refl _ _ | refine Below.drew ?_ | refine Below.setCell ?_ (by first | (simp; done) | (simp; omega)) _ | refine Below.alloc ?_ (by first | (simp; done) | (simp; omega)) _))).mono ?_; rintro e w1 ⟨rfl, rfl⟩)
  refine bodyPost_ret (v := .tuple #[zeroIm, .bool false]) (by simp [results, Try.results19, go_sem, zeroIm, *]) rfl ⟨rfl, ?_⟩
  repeat (first | exact Below.refl _ _ | refine Below.drew ?_ | refine Below.setCell ?_ (by first | (simp; done) | (simp; omega)) _ | refine Below.alloc ?_ (by first | (simp; done) | (simp; omega)) _)

theorem no_put {w : World} {v : Value} (hm : MadeNot w v) (k : Mo.Ky) (i : Mo.Im) (A : Option Addr) (n c : Nat) : Calls Try.prog 26 #[v, kv k, .agg #[.int .i64 i.w, .int .i64 i.h, .slice A n c]] w fun e w' => e = .returned (.tuple #[]) ∧ Below w.heap.size w w' := by
  unfold kv
  go_enter Try.func26, Try.ntmps26
  go_wp2_with (go_at_call 34; refine (hm _ (by repeat (first | exact Below.refl _ _ | refine Below.drew ?_ | refine Below.setCell ?_ (by first | (simp; done) | (simp; omega)) _ | refine Below.alloc ?_ (by first | (simp; done) | (simp; omega)) _))).mono ?_; rintro e w1 ⟨rfl, rfl⟩)
  refine bodyPost_ret (v := .tuple #[]) (by simp [results, Try.results26, go_sem]) rfl ⟨rfl, ?_⟩
  repeat (first | exact Below.refl _ _ | refine Below.drew ?_ | refine Below.setCell ?_ (by first | (simp; done) | (simp; omega)) _ | refine Below.alloc ?_ (by first | (simp; done) | (simp; omega)) _)

theorem no_drop {w : World} {v : Value} (hm : MadeNot w v) (n : Int) : Calls Try.prog 28 #[v, .int .i64 n] w fun e w' => e = .returned (.int .i64 0) ∧ Below w.heap.size w w' := by
  go_enter Try.func28, Try.ntmps28
  go_wp2_with (go_at_call 34; refine (hm _ (by repeat (first | exact Below.refl _ _ | refine Below.drew ?_ | refine Below.setCell ?_ (by first | (simp; done) | (simp; omega)) _ | refine Below.alloc ?_ (by first | (simp; done) | (simp; omega)) _))).mono ?_; rintro e w1 ⟨rfl, rfl⟩)
  go_ret
  refine ⟨rfl, ?_⟩
  repeat (first | exact Below.refl _ _ | refine Below.drew ?_ | refine Below.setCell ?_ (by first | (simp; done) | (simp; omega)) _ | refine Below.alloc ?_ (by first | (simp; done) | (simp; omega)) _)

theorem no_remove {w : World} {v : Value} (hm : MadeNot w v) (k : Mo.Ky) : Calls Try.prog 30 #[v, kv k] w fun e w' => e = .returned (.bool false) ∧ Below w.heap.size w w' := by
  unfold kv
  go_enter Try.func30, Try.ntmps30
  go_wp2_with (go_at_call 34; refine (hm _ (by repeat (first | exact Below.refl _ _ | refine Below.drew ?_ | refine Below.setCell ?_ (by first | (simp; done) | (simp; omega)) _ | refine Below.alloc ?_ (by first | (simp; done) | (simp; omega)) _))).mono ?_; rintro e w1 ⟨rfl, rfl⟩)
  go_ret
  refine ⟨rfl, ?_⟩
  repeat (first | exact Below.refl _ _ | refine Below.drew ?_ | refine Below.setCell ?_ (by first | (simp; done) | (simp; omega)) _ | refine Below.alloc ?_ (by first | (simp; done) | (simp; omega)) _)

theorem no_resize {w : World} {v : Value} (hm : MadeNot w v) (n : Int) : Calls Try.prog 32 #[v, .int .i64 n] w fun e w' => e = .returned (.int .i64 0) ∧ Below w.heap.size w w' := by
  go_enter Try.func32, Try.ntmps32
  go_wp2_with (go_at_call 34; refine (hm _ (by repeat (first | exact Below.refl _ _ | refine Below.drew ?_ | refine Below.setCell ?_ (by first | (simp; done) | (simp; omega)) _ | refine Below.alloc ?_ (by first | (simp; done) | (simp; omega)) _))).mono ?_; rintro e w1 ⟨rfl, rfl⟩)
  go_ret
  refine ⟨rfl, ?_⟩
  repeat (first | exact Below.refl _ _ | refine Below.drew ?_ | refine Below.setCell ?_ (by first | (simp; done) | (simp; omega)) _ | refine Below.alloc ?_ (by first | (simp; done) | (simp; omega)) _)

theorem no_keys {w : World} {v : Value} (hm : MadeNot w v) : Calls Try.prog 13 #[v] w fun e w' => e = .returned (.slice none 0 0) ∧ Below w.heap.size w w' := by
  go_enter Try.func13, Try.ntmps13
  go_wp2_with (go_at_call 34; refine (hm _ (by repeat (first | exact Below.refl _ _ | refine Below.drew ?_ | refine Below.setCell ?_ (by first | (simp; done) | (simp; omega)) _ | refine Below.alloc ?_ (by first | (simp; done) | (simp; omega)) _))).mono ?_; rintro e w1 ⟨rfl, rfl⟩)
  go_ret
  refine ⟨rfl, ?_⟩
  repeat (first | exact Below.refl _ _ | refine Below.drew ?_ | refine Below.setCell ?_ (by first | (simp; done) | (simp; omega)) _ | refine Below.alloc ?_ (by first | (simp; done) | (simp; omega)) _)

theorem no_evicted {w : World} {v : Value} (hm : MadeNot w v) : Calls Try.prog 15 #[v] w fun e w' => e = .returned (.int .i64 0) ∧ Below w.heap.size w w' := by
  go_enter Try.func15, Try.ntmps15
  go_wp2_with (go_at_call 34; refine (hm _ (by repeat (first | exact Below.refl _ _ | refine Below.drew ?_ | refine Below.setCell ?_ (by first | (simp; done) | (simp; omega)) _ | refine Below.alloc ?_ (by first | (simp; done) | (simp; omega)) _))).mono ?_; rintro e w1 ⟨rfl, rfl⟩)
  go_ret
  refine ⟨rfl, ?_⟩
  repeat (first | exact Below.refl _ _ | refine Below.drew ?_ | refine Below.setCell ?_ (by first | (simp; done) | (simp; omega)) _ | refine Below.alloc ?_ (by first | (simp; done) | (simp; omega)) _)

theorem no_copy {w : World} {v : Value} (hm : MadeNot w v) : Calls Try.prog 21 #[v] w fun e w' => e = .returned (.pointer none) ∧ Below w.heap.size w w' := by
  go_enter Try.func21, Try.ntmps21
  go_wp2_with (go_at_call 34; refine (hm _ (by repeat (first | exact Below.refl _ _ | refine Below.drew ?_ | refine Below.setCell ?_ (by first | (simp; done) | (simp; omega)) _ | refine Below.alloc ?_ (by first | (simp; done) | (simp; omega)) _))).mono ?_; rintro e w1 ⟨rfl, rfl⟩)
  go_ret
  refine ⟨rfl, ?_⟩
  repeat (first | exact Below.refl _ _ | refine Below.drew ?_ | refine Below.setCell ?_ (by first | (simp; done) | (simp; omega)) _ | refine Below.alloc ?_ (by first | (simp; done) | (simp; omega)) _)

theorem rno_get {w : World} {v : Value} (hm : RMadeNot w v) (k : Mo.Ky) : Calls Try.prog 25 #[v, kv k] w fun e w' => e = .returned (.tuple #[zeroIm, .bool false]) ∧ Below w.heap.size w w' := by
  have hrb : ((w.alloc (.cells #[.int .i64 k.node, .int .i64 k.stamp, .int .i64 k.level, .int .i64 k.x, .int .i64 k.y] 29)).alloc (.cells #[.int .i64 0, .int .i64 0, .slice none 0 0] 32)).heap[w.heap.size + 1]? = some (.cells #[.int .i64 0, .int .i64 0, .slice none 0 0] 32 (0, 0)) := blk_at _ _ _ (by simp)
  obtain ⟨r0, r1, r2, y0, y1, y2⟩ := blk3 hrb
  unfold kv
  go_enter Try.func25, Try.ntmps25
  go_wp2_with (go_at_call 36; refine (hm _ (by repeat (first | exact Below.refl _ _ | refine Below.drew ?_ | refine Below.setCell ?_ (by first | (simp; done) | (simp; omega)) _ | refine Below.alloc ?_ (by first | (simp; done) | (simp; omega)) _))).mono ?_; rintro e w1 ⟨rfl, rfl⟩)
  refine bodyPost_ret (v := .tuple #[zeroIm, .bool false]) (by simp [results, Try.results25, go_sem, zeroIm, *]) rfl ⟨rfl, ?_⟩
  repeat (first | exact Below.refl _ _ | refine Below.drew ?_ | refine Below.setCell ?_ (by first | (simp; done) | (simp; omega)) _ | refine Below.alloc ?_ (by first | (simp; done) | (simp; omega)) _)

theorem rno_put {w : World} {v : Value} (hm : RMadeNot w v) (k : Mo.Ky) (i : Mo.Im) (A : Option Addr) (n c : Nat) : Calls Try.prog 27 #[v, kv k, .agg #[.int .i64 i.w, .int .i64 i.h, .slice A n c]] w fun e w' => e = .returned (.tuple #[]) ∧ Below w.heap.size w w' := by
  unfold kv
  go_enter Try.func27, Try.ntmps27
  go_wp2_with (go_at_call 36; refine (hm _ (by repeat (first | exact Below.refl _ _ | refine Below.drew ?_ | refine Below.setCell ?_ (by first | (simp; done) | (simp; omega)) _ | refine Below.alloc ?_ (by first | (simp; done) | (simp; omega)) _))).mono ?_; rintro e w1 ⟨rfl, rfl⟩)
  refine bodyPost_ret (v := .tuple #[]) (by simp [results, Try.results27, go_sem]) rfl ⟨rfl, ?_⟩
  repeat (first | exact Below.refl _ _ | refine Below.drew ?_ | refine Below.setCell ?_ (by first | (simp; done) | (simp; omega)) _ | refine Below.alloc ?_ (by first | (simp; done) | (simp; omega)) _)

theorem rno_drop {w : World} {v : Value} (hm : RMadeNot w v) (n : Int) : Calls Try.prog 29 #[v, .int .i64 n] w fun e w' => e = .returned (.int .i64 0) ∧ Below w.heap.size w w' := by
  go_enter Try.func29, Try.ntmps29
  go_wp2_with (go_at_call 36; refine (hm _ (by repeat (first | exact Below.refl _ _ | refine Below.drew ?_ | refine Below.setCell ?_ (by first | (simp; done) | (simp; omega)) _ | refine Below.alloc ?_ (by first | (simp; done) | (simp; omega)) _))).mono ?_; rintro e w1 ⟨rfl, rfl⟩)
  go_ret
  refine ⟨rfl, ?_⟩
  repeat (first | exact Below.refl _ _ | refine Below.drew ?_ | refine Below.setCell ?_ (by first | (simp; done) | (simp; omega)) _ | refine Below.alloc ?_ (by first | (simp; done) | (simp; omega)) _)

theorem rno_remove {w : World} {v : Value} (hm : RMadeNot w v) (k : Mo.Ky) : Calls Try.prog 31 #[v, kv k] w fun e w' => e = .returned (.bool false) ∧ Below w.heap.size w w' := by
  unfold kv
  go_enter Try.func31, Try.ntmps31
  go_wp2_with (go_at_call 36; refine (hm _ (by repeat (first | exact Below.refl _ _ | refine Below.drew ?_ | refine Below.setCell ?_ (by first | (simp; done) | (simp; omega)) _ | refine Below.alloc ?_ (by first | (simp; done) | (simp; omega)) _))).mono ?_; rintro e w1 ⟨rfl, rfl⟩)
  go_ret
  refine ⟨rfl, ?_⟩
  repeat (first | exact Below.refl _ _ | refine Below.drew ?_ | refine Below.setCell ?_ (by first | (simp; done) | (simp; omega)) _ | refine Below.alloc ?_ (by first | (simp; done) | (simp; omega)) _)

theorem rno_resize {w : World} {v : Value} (hm : RMadeNot w v) (n : Int) : Calls Try.prog 33 #[v, .int .i64 n] w fun e w' => e = .returned (.int .i64 0) ∧ Below w.heap.size w w' := by
  go_enter Try.func33, Try.ntmps33
  go_wp2_with (go_at_call 36; refine (hm _ (by repeat (first | exact Below.refl _ _ | refine Below.drew ?_ | refine Below.setCell ?_ (by first | (simp; done) | (simp; omega)) _ | refine Below.alloc ?_ (by first | (simp; done) | (simp; omega)) _))).mono ?_; rintro e w1 ⟨rfl, rfl⟩)
  go_ret
  refine ⟨rfl, ?_⟩
  repeat (first | exact Below.refl _ _ | refine Below.drew ?_ | refine Below.setCell ?_ (by first | (simp; done) | (simp; omega)) _ | refine Below.alloc ?_ (by first | (simp; done) | (simp; omega)) _)

theorem rno_evicted {w : World} {v : Value} (hm : RMadeNot w v) : Calls Try.prog 16 #[v] w fun e w' => e = .returned (.int .i64 0) ∧ Below w.heap.size w w' := by
  go_enter Try.func16, Try.ntmps16
  go_wp2_with (go_at_call 36; refine (hm _ (by repeat (first | exact Below.refl _ _ | refine Below.drew ?_ | refine Below.setCell ?_ (by first | (simp; done) | (simp; omega)) _ | refine Below.alloc ?_ (by first | (simp; done) | (simp; omega)) _))).mono ?_; rintro e w1 ⟨rfl, rfl⟩)
  go_ret
  refine ⟨rfl, ?_⟩
  repeat (first | exact Below.refl _ _ | refine Below.drew ?_ | refine Below.setCell ?_ (by first | (simp; done) | (simp; omega)) _ | refine Below.alloc ?_ (by first | (simp; done) | (simp; omega)) _)

theorem rno_copy {w : World} {v : Value} (hm : RMadeNot w v) : Calls Try.prog 22 #[v] w fun e w' => e = .returned (.pointer none) ∧ Below w.heap.size w w' := by
  go_enter Try.func22, Try.ntmps22
  go_wp2_with (go_at_call 36; refine (hm _ (by repeat (first | exact Below.refl _ _ | refine Below.drew ?_ | refine Below.setCell ?_ (by first | (simp; done) | (simp; omega)) _ | refine Below.alloc ?_ (by first | (simp; done) | (simp; omega)) _))).mono ?_; rintro e w1 ⟨rfl, rfl⟩)
  go_ret
  refine ⟨rfl, ?_⟩
  repeat (first | exact Below.refl _ _ | refine Below.drew ?_ | refine Below.setCell ?_ (by first | (simp; done) | (simp; omega)) _ | refine Below.alloc ?_ (by first | (simp; done) | (simp; omega)) _)

theorem rno_keys {w : World} {v : Value} (hm : RMadeNot w v) : Calls Try.prog 14 #[v] w fun e w' => ∃ v', e = .returned v' ∧ w'.ownsRow w.heap.size 29 5 v' 0 [] ∧ Below w.heap.size w w' := by
  go_enter Try.func14, Try.ntmps14
  go_wp2_with (go_at_call 36; refine (hm _ (by repeat (first | exact Below.refl _ _ | refine Below.drew ?_ | refine Below.setCell ?_ (by first | (simp; done) | (simp; omega)) _ | refine Below.alloc ?_ (by first | (simp; done) | (simp; omega)) _))).mono ?_; rintro e w1 ⟨rfl, rfl⟩)
  go_ret
  refine ⟨_, rfl, ?_, ?_⟩
  · simpa using World.ownsRow_made (base := w.heap.size) (e := 29) (size := 5) w #[] 0 (Nat.le_refl _) (by simp [maxLen]) (by simp)
  · repeat (first | exact Below.refl _ _ | refine Below.drew ?_ | refine Below.setCell ?_ (by first | (simp; done) | (simp; omega)) _ | refine Below.alloc ?_ (by first | (simp; done) | (simp; omega)) _)
end Go.Proofs.Ytpdjfcnlbaaogaa
