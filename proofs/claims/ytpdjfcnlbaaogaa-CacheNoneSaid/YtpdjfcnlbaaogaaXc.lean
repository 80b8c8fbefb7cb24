/- Contracts of the operations on caches that are made (some s) or not (none), of both sides. -/
import Derived.Test.YtpdjfcnlbaaogaaU2
import Derived.Test.YtpdjfcnlbaaogaaUp
import Derived.Test.YtpdjfcnlbaaogaaUc
import Derived.Test.YtpdjfcnlbaaogaaUn
namespace Go.Proofs.Ytpdjfcnlbaaogaa
open Go.RowKit

/-- The program's cache behind v: made with the state s, or not made. -/
def PAt (w : World) (B : Nat) (v : Value) (σ : Option Mo.Ca) (F : Nat → Prop) : Prop :=
  match σ with
  | some s => ∃ p, v = .pointer (some ⟨p, 0, none⟩) ∧ CAt w B p s F
  | none => B ≤ w.heap.size ∧ F = Nof ∧ MadeNot w v
/-- The reference's. -/
def QAt (w : World) (B : Nat) (v : Value) (σ : Option Mo.Ca) (F : Nat → Prop) : Prop :=
  match σ with
  | some s => ∃ p, v = .pointer (some ⟨p, 0, none⟩) ∧ RAt w B p s F
  | none => B ≤ w.heap.size ∧ F = Nof ∧ RMadeNot w v

theorem Fr.nof {w w' : World} (h : Fr w w' Nof) : Below w.heap.size w w' := h.toBelow (Nat.le_refl _) fun _ h => h.elim

theorem PAt.lt {w : World} {B : Nat} {v : Value} {σ : Option Mo.Ca} {F : Nat → Prop} (h : PAt w B v σ F) : ∀ b, F b → B ≤ b ∧ b < w.heap.size := by
  cases σ with
  | some s => obtain ⟨p, rfl, h⟩ := h; exact h.lt
  | none => obtain ⟨_, rfl, _⟩ := h; exact fun b h => h.elim
theorem QAt.lt {w : World} {B : Nat} {v : Value} {σ : Option Mo.Ca} {F : Nat → Prop} (h : QAt w B v σ F) : ∀ b, F b → B ≤ b ∧ b < w.heap.size := by
  cases σ with
  | some s => obtain ⟨p, rfl, h⟩ := h; exact h.lt
  | none => obtain ⟨_, rfl, _⟩ := h; exact fun b h => h.elim
theorem PAt.size {w : World} {B : Nat} {v : Value} {σ : Option Mo.Ca} {F : Nat → Prop} (h : PAt w B v σ F) : B ≤ w.heap.size := by
  cases σ with
  | some s => obtain ⟨p, rfl, h⟩ := h; exact h.2.1
  | none => exact h.1
theorem QAt.size {w : World} {B : Nat} {v : Value} {σ : Option Mo.Ca} {F : Nat → Prop} (h : QAt w B v σ F) : B ≤ w.heap.size := by
  cases σ with
  | some s => obtain ⟨p, rfl, h⟩ := h; exact h.2.1
  | none => exact h.1
theorem PAt.notPix {w : World} {B : Nat} {v : Value} {σ : Option Mo.Ca} {F : Nat → Prop} (h : PAt w B v σ F) : ∀ b, F b → NotPix w b := by
  cases σ with
  | some s => obtain ⟨p, rfl, h⟩ := h; exact h.notPix
  | none => obtain ⟨_, rfl, _⟩ := h; exact fun b h => h.elim
theorem QAt.notPix {w : World} {B : Nat} {v : Value} {σ : Option Mo.Ca} {F : Nat → Prop} (h : QAt w B v σ F) : ∀ b, F b → NotPix w b := by
  cases σ with
  | some s => obtain ⟨p, rfl, h⟩ := h; exact h.notPix
  | none => obtain ⟨_, rfl, _⟩ := h; exact fun b h => h.elim
theorem PAt.below {w w' : World} {B : Nat} {v : Value} {σ : Option Mo.Ca} {F : Nat → Prop} (h : PAt w B v σ F) (hb : Below w.heap.size w w') : PAt w' B v σ F := by
  cases σ with
  | some s => obtain ⟨p, rfl, h⟩ := h; exact ⟨p, rfl, h.below hb⟩
  | none => obtain ⟨h1, rfl, h2⟩ := h; exact ⟨Nat.le_trans h1 hb.size, rfl, h2.below hb⟩
theorem QAt.below {w w' : World} {B : Nat} {v : Value} {σ : Option Mo.Ca} {F : Nat → Prop} (h : QAt w B v σ F) (hb : Below w.heap.size w w') : QAt w' B v σ F := by
  cases σ with
  | some s => obtain ⟨p, rfl, h⟩ := h; exact ⟨p, rfl, h.below hb⟩
  | none => obtain ⟨h1, rfl, h2⟩ := h; exact ⟨Nat.le_trans h1 hb.size, rfl, h2.below hb⟩

/-- A cache stays where others are turned; these others belong to made caches only if it is made. -/
theorem PAt.stay {w w' : World} {B : Nat} {v : Value} {σ : Option Mo.Ca} {F G : Nat → Prop} (h : PAt w B v σ F) (hf : Fr w w' G) (hd : ∀ b, F b → ¬ G b) (hG : ∀ b, G b → NotPix w b) (hn : σ = none → ∀ b, ¬ G b) : PAt w' B v σ F := by
  cases σ with
  | some s => obtain ⟨p, rfl, h⟩ := h; exact ⟨p, rfl, h.frame hf hd hG⟩
  | none => exact PAt.below h (hf.toBelow (Nat.le_refl _) fun b hb => absurd hb (hn rfl b))
theorem QAt.stay {w w' : World} {B : Nat} {v : Value} {σ : Option Mo.Ca} {F G : Nat → Prop} (h : QAt w B v σ F) (hf : Fr w w' G) (hd : ∀ b, F b → ¬ G b) (hG : ∀ b, G b → NotPix w b) (hn : σ = none → ∀ b, ¬ G b) : QAt w' B v σ F := by
  cases σ with
  | some s => obtain ⟨p, rfl, h⟩ := h; exact ⟨p, rfl, h.frame hf hd hG⟩
  | none => exact QAt.below h (hf.toBelow (Nat.le_refl _) fun b hb => absurd hb (hn rfl b))
theorem PAt.none_nof {w : World} {B : Nat} {v : Value} {σ : Option Mo.Ca} {F : Nat → Prop} (h : PAt w B v σ F) (hn : σ = none) : ∀ b, ¬ F b := by
  subst hn; obtain ⟨_, rfl, _⟩ := h; exact fun b h => h.elim
theorem QAt.none_nof {w : World} {B : Nat} {v : Value} {σ : Option Mo.Ca} {F : Nat → Prop} (h : QAt w B v σ F) (hn : σ = none) : ∀ b, ¬ F b := by
  subst hn; obtain ⟨_, rfl, _⟩ := h; exact fun b h => h.elim

/-- A step of the program's cache leaves the reference's, and the other way round. -/
theorem stepPQ {w w' : World} {B B' : Nat} {v u : Value} {σ : Option Mo.Ca} {F F' G : Nat → Prop} (hc : PAt w B v σ F) (hr : QAt w B' u σ G) (hd : ∀ x, F x → ¬ G x) (st : Stp w w' F F') : QAt w' B' u σ G ∧ ∀ x, F' x → ¬ G x :=
  ⟨hr.stay st.1 (fun x hg hf => hd x hf hg) hc.notPix hc.none_nof, fun x hx hg => by
    rcases st.2 x hx with h | h
    · exact hd x h hg
    · have := (hr.lt x hg).2; omega⟩
theorem stepQP {w w' : World} {B B' : Nat} {v u : Value} {σ τ : Option Mo.Ca} {F G G' : Nat → Prop} (hc : PAt w B v τ F) (hr : QAt w B' u σ G) (hn : τ = none → σ = none) (hd : ∀ x, F x → ¬ G x) (st : Stp w w' G G') : PAt w' B v τ F ∧ ∀ x, F x → ¬ G' x :=
  ⟨hc.stay st.1 (fun x hf hg => hd x hf hg) hr.notPix (fun h => hr.none_nof (hn h)), fun x hf hx => by
    rcases st.2 x hx with h | h
    · exact hd x hf h
    · have := (hc.lt x hf).2; omega⟩

def SmX (σ : Option Mo.Ca) : Prop := ∀ s, σ = some s → Mo.Sm s
def keysX (σ : Option Mo.Ca) : List Mo.Ky := match σ with | some s => Mo.keys s | none => []
def evX (σ : Option Mo.Ca) : Int := match σ with | some s => s.ev | none => 0
def lookX (k : Mo.Ky) (σ : Option Mo.Ca) : Option Mo.Im := match σ with | some s => Mo.look k s.l | none => none
def imX (o : Option Mo.Im) : Mo.Im := match o with | some i => i | none => ⟨0, 0, []⟩
theorem zero_is (w : World) (B : Nat) : ImIs w B zeroIm ⟨0, 0, []⟩ := ⟨_, rfl, World.ownsRow_nil _ _ _ _⟩

theorem getX {w : World} {B : Nat} {v : Value} {σ : Option Mo.Ca} {F : Nat → Prop} (h : PAt w B v σ F) (k : Mo.Ky) (hs : SmX σ) : Calls Try.prog 19 #[v, kv k] w fun e w' => ∃ v', e = .returned (.tuple #[v', .bool (lookX k σ).isSome]) ∧ ImIs w' w.heap.size v' (imX (lookX k σ)) ∧ ∃ F', PAt w' B v (σ.map (Mo.get k)) F' ∧ Stp w w' F F' := by
  cases σ with
  | some s =>
    obtain ⟨p, rfl, h⟩ := h
    refine (get_any h k (hs s rfl)).mono ?_
    rintro e w' ⟨⟨v', b, rfl, rfl, h1, h2⟩, F', hc, hst⟩
    refine ⟨v', rfl, ?_, F', ⟨p, rfl, hc⟩, hst⟩
    show ImIs w' w.heap.size v' (imX (Mo.look k s.l))
    cases hk : Mo.look k s.l with
    | none => rw [h2 hk]; exact zero_is w' _
    | some i => exact h1 i hk
  | none =>
    obtain ⟨h1, rfl, h2⟩ := h
    refine (no_get h2 k).mono ?_
    rintro e w' ⟨rfl, hb⟩
    exact ⟨_, rfl, zero_is w' _, Nof, ⟨Nat.le_trans h1 hb.size, rfl, h2.below hb⟩, Stp.below hb _⟩
theorem rgetX {w : World} {B : Nat} {v : Value} {σ : Option Mo.Ca} {F : Nat → Prop} (h : QAt w B v σ F) (k : Mo.Ky) (hs : SmX σ) : Calls Try.prog 25 #[v, kv k] w fun e w' => ∃ v', e = .returned (.tuple #[v', .bool (lookX k σ).isSome]) ∧ ImIs w' w.heap.size v' (imX (lookX k σ)) ∧ ∃ F', QAt w' B v (σ.map (Mo.get k)) F' ∧ Stp w w' F F' := by
  cases σ with
  | some s =>
    obtain ⟨p, rfl, h⟩ := h
    show Calls Try.prog 25 #[.pointer (some ⟨p, 0, none⟩), kv k] w fun e w' => ∃ v', e = .returned (.tuple #[v', .bool (Mo.look k s.l).isSome]) ∧ ImIs w' w.heap.size v' (imX (Mo.look k s.l)) ∧ ∃ F', QAt w' B (.pointer (some ⟨p, 0, none⟩)) (some (Mo.get k s)) F' ∧ Stp w w' F F'
    cases hk : Mo.look k s.l with
    | none =>
      refine (rget_no h k hk).mono ?_
      rintro e w' ⟨rfl, hb⟩
      have hg : Mo.get k s = s := by unfold Mo.get; rw [hk]
      rw [hg]
      exact ⟨_, rfl, zero_is w' _, F, ⟨p, rfl, h.below hb⟩, Stp.below hb F⟩
    | some i =>
      refine (rget_yes h k i hk ((hs s rfl).found hk)).mono ?_
      rintro e w' ⟨v', rfl, hi, F', hc, hst⟩
      have hg : Mo.get k s = Mo.use k i s := by unfold Mo.get; rw [hk]
      rw [hg]
      exact ⟨v', rfl, hi, F', ⟨p, rfl, hc⟩, hst⟩
  | none =>
    obtain ⟨h1, rfl, h2⟩ := h
    refine (rno_get h2 k).mono ?_
    rintro e w' ⟨rfl, hb⟩
    exact ⟨_, rfl, zero_is w' _, Nof, ⟨Nat.le_trans h1 hb.size, rfl, h2.below hb⟩, Stp.below hb _⟩

theorem putX {w : World} {B : Nat} {v : Value} {σ : Option Mo.Ca} {F : Nat → Prop} (h : PAt w B v σ F) (k : Mo.Ky) (i : Mo.Im) (A : Option Addr) (n c : Nat) (hi : PixIn w A n i.pix) : Calls Try.prog 26 #[v, kv k, .agg #[.int .i64 i.w, .int .i64 i.h, .slice A n c]] w fun e w' => e = .returned (.tuple #[]) ∧ ∃ F', PAt w' B v (σ.map (Mo.put k i)) F' ∧ Stp w w' F F' := by
  cases σ with
  | some s =>
    obtain ⟨p, rfl, h⟩ := h
    refine (put_any h k _ i ⟨A, n, c, rfl, hi⟩).mono ?_
    rintro e w' ⟨rfl, F', hc, hst⟩
    exact ⟨rfl, F', ⟨p, rfl, hc⟩, hst⟩
  | none =>
    obtain ⟨h1, rfl, h2⟩ := h
    refine (no_put h2 k i A n c).mono ?_
    rintro e w' ⟨rfl, hb⟩
    exact ⟨rfl, Nof, ⟨Nat.le_trans h1 hb.size, rfl, h2.below hb⟩, Stp.below hb _⟩
theorem rputX {w : World} {B : Nat} {v : Value} {σ : Option Mo.Ca} {F : Nat → Prop} (h : QAt w B v σ F) (k : Mo.Ky) (i : Mo.Im) (A : Option Addr) (n c : Nat) (hi : PixIn w A n i.pix) (hlow : ∀ ad, A = some ad → i.pix ≠ [] → ad.block < B) : Calls Try.prog 27 #[v, kv k, .agg #[.int .i64 i.w, .int .i64 i.h, .slice A n c]] w fun e w' => e = .returned (.tuple #[]) ∧ ∃ F', QAt w' B v (σ.map (Mo.put k i)) F' ∧ Stp w w' F F' := by
  cases σ with
  | some s =>
    obtain ⟨p, rfl, h⟩ := h
    refine (rput_any h k i A n c hi hlow).mono ?_
    rintro e w' ⟨rfl, F', hc, hst⟩
    exact ⟨rfl, F', ⟨p, rfl, hc⟩, hst⟩
  | none =>
    obtain ⟨h1, rfl, h2⟩ := h
    refine (rno_put h2 k i A n c).mono ?_
    rintro e w' ⟨rfl, hb⟩
    exact ⟨rfl, Nof, ⟨Nat.le_trans h1 hb.size, rfl, h2.below hb⟩, Stp.below hb _⟩

def droppedX (n : Int) (σ : Option Mo.Ca) : Int := match σ with | some s => ((Mo.dropped n s : Nat) : Int) | none => 0
def overX (n : Int) (σ : Option Mo.Ca) : Int := match σ with | some s => ((Mo.over { s with bud := Mo.lim n } : Nat) : Int) | none => 0

theorem dropX {w : World} {B : Nat} {v : Value} {σ : Option Mo.Ca} {F : Nat → Prop} (h : PAt w B v σ F) (n : Int) : Calls Try.prog 28 #[v, .int .i64 n] w fun e w' => e = .returned (.int .i64 (droppedX n σ)) ∧ ∃ F', PAt w' B v (σ.map (Mo.drop n)) F' ∧ Stp w w' F F' := by
  cases σ with
  | some s =>
    obtain ⟨p, rfl, h⟩ := h
    refine (drop_any h n).mono ?_
    rintro e w' ⟨rfl, F', hc, hst⟩
    exact ⟨rfl, F', ⟨p, rfl, hc⟩, hst⟩
  | none =>
    obtain ⟨h1, rfl, h2⟩ := h
    refine (no_drop h2 n).mono ?_
    rintro e w' ⟨rfl, hb⟩
    exact ⟨rfl, Nof, ⟨Nat.le_trans h1 hb.size, rfl, h2.below hb⟩, Stp.below hb _⟩
theorem rdropX {w : World} {B : Nat} {v : Value} {σ : Option Mo.Ca} {F : Nat → Prop} (h : QAt w B v σ F) (n : Int) : Calls Try.prog 29 #[v, .int .i64 n] w fun e w' => e = .returned (.int .i64 (droppedX n σ)) ∧ ∃ F', QAt w' B v (σ.map (Mo.drop n)) F' ∧ Stp w w' F F' := by
  cases σ with
  | some s =>
    obtain ⟨p, rfl, h⟩ := h
    refine (rdrop_any h n).mono ?_
    rintro e w' ⟨rfl, F', hc, hst⟩
    exact ⟨rfl, F', ⟨p, rfl, hc⟩, hst⟩
  | none =>
    obtain ⟨h1, rfl, h2⟩ := h
    refine (rno_drop h2 n).mono ?_
    rintro e w' ⟨rfl, hb⟩
    exact ⟨rfl, Nof, ⟨Nat.le_trans h1 hb.size, rfl, h2.below hb⟩, Stp.below hb _⟩
theorem removeX {w : World} {B : Nat} {v : Value} {σ : Option Mo.Ca} {F : Nat → Prop} (h : PAt w B v σ F) (k : Mo.Ky) : Calls Try.prog 30 #[v, kv k] w fun e w' => e = .returned (.bool (lookX k σ).isSome) ∧ ∃ F', PAt w' B v (σ.map (Mo.remove k)) F' ∧ Stp w w' F F' := by
  cases σ with
  | some s =>
    obtain ⟨p, rfl, h⟩ := h
    refine (remove_any h k).mono ?_
    rintro e w' ⟨rfl, F', hc, hst⟩
    exact ⟨rfl, F', ⟨p, rfl, hc⟩, hst⟩
  | none =>
    obtain ⟨h1, rfl, h2⟩ := h
    refine (no_remove h2 k).mono ?_
    rintro e w' ⟨rfl, hb⟩
    exact ⟨rfl, Nof, ⟨Nat.le_trans h1 hb.size, rfl, h2.below hb⟩, Stp.below hb _⟩
theorem rremoveX {w : World} {B : Nat} {v : Value} {σ : Option Mo.Ca} {F : Nat → Prop} (h : QAt w B v σ F) (k : Mo.Ky) : Calls Try.prog 31 #[v, kv k] w fun e w' => e = .returned (.bool (lookX k σ).isSome) ∧ ∃ F', QAt w' B v (σ.map (Mo.remove k)) F' ∧ Stp w w' F F' := by
  cases σ with
  | some s =>
    obtain ⟨p, rfl, h⟩ := h
    refine (rremove_any h k).mono ?_
    rintro e w' ⟨rfl, F', hc, hst⟩
    exact ⟨rfl, F', ⟨p, rfl, hc⟩, hst⟩
  | none =>
    obtain ⟨h1, rfl, h2⟩ := h
    refine (rno_remove h2 k).mono ?_
    rintro e w' ⟨rfl, hb⟩
    exact ⟨rfl, Nof, ⟨Nat.le_trans h1 hb.size, rfl, h2.below hb⟩, Stp.below hb _⟩
theorem resizeX {w : World} {B : Nat} {v : Value} {σ : Option Mo.Ca} {F : Nat → Prop} (h : PAt w B v σ F) (n : Int) : Calls Try.prog 32 #[v, .int .i64 n] w fun e w' => e = .returned (.int .i64 (overX n σ)) ∧ ∃ F', PAt w' B v (σ.map (Mo.resize n)) F' ∧ Stp w w' F F' := by
  cases σ with
  | some s =>
    obtain ⟨p, rfl, h⟩ := h
    refine (resize_any h n).mono ?_
    rintro e w' ⟨rfl, F', hc, hst⟩
    exact ⟨rfl, F', ⟨p, rfl, hc⟩, hst⟩
  | none =>
    obtain ⟨h1, rfl, h2⟩ := h
    refine (no_resize h2 n).mono ?_
    rintro e w' ⟨rfl, hb⟩
    exact ⟨rfl, Nof, ⟨Nat.le_trans h1 hb.size, rfl, h2.below hb⟩, Stp.below hb _⟩
theorem rresizeX {w : World} {B : Nat} {v : Value} {σ : Option Mo.Ca} {F : Nat → Prop} (h : QAt w B v σ F) (n : Int) : Calls Try.prog 33 #[v, .int .i64 n] w fun e w' => e = .returned (.int .i64 (overX n σ)) ∧ ∃ F', QAt w' B v (σ.map (Mo.resize n)) F' ∧ Stp w w' F F' := by
  cases σ with
  | some s =>
    obtain ⟨p, rfl, h⟩ := h
    refine (rresize_any h n).mono ?_
    rintro e w' ⟨rfl, F', hc, hst⟩
    exact ⟨rfl, F', ⟨p, rfl, hc⟩, hst⟩
  | none =>
    obtain ⟨h1, rfl, h2⟩ := h
    refine (rno_resize h2 n).mono ?_
    rintro e w' ⟨rfl, hb⟩
    exact ⟨rfl, Nof, ⟨Nat.le_trans h1 hb.size, rfl, h2.below hb⟩, Stp.below hb _⟩
theorem keysXp {w : World} {B : Nat} {v : Value} {σ : Option Mo.Ca} {F : Nat → Prop} (h : PAt w B v σ F) : Calls Try.prog 13 #[v] w fun e w' => ∃ v', e = .returned v' ∧ w'.ownsRow w.heap.size 29 5 v' (keysX σ).length (flatK (keysX σ)) ∧ Below w.heap.size w w' := by
  cases σ with
  | some s => obtain ⟨p, rfl, h⟩ := h; exact keys_any h
  | none =>
    obtain ⟨h1, rfl, h2⟩ := h
    refine (no_keys h2).mono ?_
    rintro e w' ⟨rfl, hb⟩
    exact ⟨_, rfl, World.ownsRow_nil _ _ _ _, hb⟩
theorem keysXq {w : World} {B : Nat} {v : Value} {σ : Option Mo.Ca} {F : Nat → Prop} (h : QAt w B v σ F) : Calls Try.prog 14 #[v] w fun e w' => ∃ v', e = .returned v' ∧ w'.ownsRow w.heap.size 29 5 v' (keysX σ).length (flatK (keysX σ)) ∧ Below w.heap.size w w' := by
  cases σ with
  | some s => obtain ⟨p, rfl, h⟩ := h; exact rkeys_any h
  | none => obtain ⟨h1, rfl, h2⟩ := h; exact rno_keys h2
theorem evXp {w : World} {B : Nat} {v : Value} {σ : Option Mo.Ca} {F : Nat → Prop} (h : PAt w B v σ F) : Calls Try.prog 15 #[v] w fun e w' => e = .returned (.int .i64 (evX σ)) ∧ Below w.heap.size w w' := by
  cases σ with
  | some s =>
    obtain ⟨p, rfl, h⟩ := h
    refine (evicted_any h).mono ?_
    rintro e w' ⟨rfl, rfl⟩
    exact ⟨rfl, Below.refl _ _⟩
  | none => obtain ⟨h1, rfl, h2⟩ := h; exact no_evicted h2
theorem evXq {w : World} {B : Nat} {v : Value} {σ : Option Mo.Ca} {F : Nat → Prop} (h : QAt w B v σ F) : Calls Try.prog 16 #[v] w fun e w' => e = .returned (.int .i64 (evX σ)) ∧ Below w.heap.size w w' := by
  cases σ with
  | some s =>
    obtain ⟨p, rfl, h⟩ := h
    refine (revicted_any h).mono ?_
    rintro e w' ⟨rfl, rfl⟩
    exact ⟨rfl, Below.refl _ _⟩
  | none => obtain ⟨h1, rfl, h2⟩ := h; exact rno_evicted h2
theorem keysX_len {w : World} {B : Nat} {v : Value} {σ : Option Mo.Ca} {F : Nat → Prop} (h : PAt w B v σ F) : (keysX σ).length ≤ 4096 := by
  cases σ with
  | some s =>
    obtain ⟨p, rfl, h⟩ := h
    have h1 := h.1.len
    have h2 := h.1.b1
    have h3 : (Mo.keys s).length = s.l.length := by simp [Mo.keys]
    show (Mo.keys s).length ≤ 4096
    omega
  | none => simp [keysX]
theorem SmX.act {σ : Option Mo.Ca} (h : SmX σ) (x : Mo.Cl) (hi : Mo.Small x.i) : SmX (σ.map (Mo.act x)) := by
  intro s hs
  cases σ with
  | none => simp at hs
  | some t => simp at hs; subst hs; exact (h t rfl).act x hi
theorem SmX.im {σ : Option Mo.Ca} (h : SmX σ) (k : Mo.Ky) : Mo.Small (imX (lookX k σ)) := by
  cases σ with
  | none => simp [imX, lookX, Mo.Small]
  | some s =>
    show Mo.Small (imX (Mo.look k s.l))
    cases hk : Mo.look k s.l with
    | none => simp [imX, Mo.Small]
    | some i => exact (h s rfl).found hk
theorem Stp.orl {w w' : World} {F F' : Nat → Prop} (h : Stp w w' F F') (G : Nat → Prop) : Stp w w' (fun b => F b ∨ G b) (fun b => F' b ∨ G b) :=
  ⟨h.1.mono fun _ h => .inl h, fun b hb => by
    rcases hb with hb | hb
    · rcases h.2 b hb with h | h
      · exact .inl (.inl h)
      · exact .inr h
    · exact .inl (.inr hb)⟩
theorem Stp.orr {w w' : World} {G G' : Nat → Prop} (h : Stp w w' G G') (F : Nat → Prop) : Stp w w' (fun b => F b ∨ G b) (fun b => F b ∨ G' b) :=
  ⟨h.1.mono fun _ h => .inr h, fun b hb => by
    rcases hb with hb | hb
    · exact .inl (.inl hb)
    · rcases h.2 b hb with h | h
      · exact .inl (.inr h)
      · exact .inr h⟩
theorem blk10 {w : World} {b : Nat} {a0 a1 a2 a3 a4 a5 a6 a7 a8 a9 : Value} {t : TypeId} (h : w.heap[b]? = some (.cells #[a0, a1, a2, a3, a4, a5, a6, a7, a8, a9] t (0, 0))) :
    w.cell? ⟨b, 0, none⟩ = some a0 ∧ w.cell? ⟨b, 1, none⟩ = some a1 ∧ w.cell? ⟨b, 2, none⟩ = some a2 ∧ w.cell? ⟨b, 3, none⟩ = some a3 ∧ w.cell? ⟨b, 4, none⟩ = some a4 ∧ w.cell? ⟨b, 5, none⟩ = some a5 ∧ w.cell? ⟨b, 6, none⟩ = some a6 ∧ w.cell? ⟨b, 7, none⟩ = some a7 ∧ w.cell? ⟨b, 8, none⟩ = some a8 ∧ w.cell? ⟨b, 9, none⟩ = some a9 :=
  ⟨by simp [World.cell?, h], by simp [World.cell?, h], by simp [World.cell?, h], by simp [World.cell?, h], by simp [World.cell?, h], by simp [World.cell?, h], by simp [World.cell?, h], by simp [World.cell?, h], by simp [World.cell?, h], by simp [World.cell?, h]⟩
/-- A block that no cache owns stays. -/
theorem PAt.blk {w w' : World} {B : Nat} {v : Value} {σ : Option Mo.Ca} {F F' : Nat → Prop} (_h : PAt w B v σ F) (st : Stp w w' F F') {b : Nat} {o : Obj} (hn : ¬ F b) (ho : w.heap[b]? = some o) : w'.heap[b]? = some o := (st.1.block b (Array.getElem?_eq_some_iff.1 ho).1 hn).trans ho
end Go.Proofs.Ytpdjfcnlbaaogaa
