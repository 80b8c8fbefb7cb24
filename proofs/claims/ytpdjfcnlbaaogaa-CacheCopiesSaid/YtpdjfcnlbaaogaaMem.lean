/- What memory holds of a cache, of the program's and of the reference's; what an operation may turn. -/
import Derived.Test.YtpdjfcnlbaaogaaMap
import Derived.OwnWalk
import Derived.Below
namespace Go.Proofs.Ytpdjfcnlbaaogaa
open Go.RowKit

def kcells (k : Mo.Ky) : List Value := [.int .i64 k.node, .int .i64 k.stamp, .int .i64 k.level, .int .i64 k.x, .int .i64 k.y]
def pcells (p : Mo.Px) : List Value := [.int .i64 p.r, .int .i64 p.g, .int .i64 p.b, .int .i64 p.a]
def flatK (l : List Mo.Ky) : List Value := l.flatMap kcells
def flatP (l : List Mo.Px) : List Value := l.flatMap pcells

theorem flatK_length (l : List Mo.Ky) : (flatK l).length = l.length * 5 := by
  induction l with
  | nil => rfl
  | cons a r ih => simp [flatK, kcells] at ih ⊢; omega
theorem flatP_length (l : List Mo.Px) : (flatP l).length = l.length * 4 := by
  induction l with
  | nil => rfl
  | cons a r ih => simp [flatP, pcells] at ih ⊢; omega
theorem flatK_append (a b : List Mo.Ky) : flatK (a ++ b) = flatK a ++ flatK b := by simp [flatK]
theorem flatP_append (a b : List Mo.Px) : flatP (a ++ b) = flatP a ++ flatP b := by simp [flatP]
theorem flatK_one {l : List Mo.Ky} : ∀ u ∈ flatK l, u.oneCell' = true := by
  intro u hu
  simp only [flatK, List.mem_flatMap] at hu
  obtain ⟨k, _, hk⟩ := hu
  simp only [kcells, List.mem_cons, List.not_mem_nil, or_false] at hk
  rcases hk with rfl | rfl | rfl | rfl | rfl <;> rfl
theorem flatP_one {l : List Mo.Px} : ∀ u ∈ flatP l, u.oneCell' = true := by
  intro u hu
  simp only [flatP, List.mem_flatMap] at hu
  obtain ⟨k, _, hk⟩ := hu
  simp only [pcells, List.mem_cons, List.not_mem_nil, or_false] at hk
  rcases hk with rfl | rfl | rfl | rfl <;> rfl

/-- Of the blocks that were there only those of F may have turned. -/
structure Fr (w w' : World) (F : Nat → Prop) : Prop where
  os : w'.os = w.os
  tape : w'.tape = w.tape
  output : w'.output = w.output
  size : w.heap.size ≤ w'.heap.size
  block : ∀ k, k < w.heap.size → ¬ F k → w'.heap[k]? = w.heap[k]?

def Nof : Nat → Prop := fun _ => False

theorem Fr.refl (w : World) (F : Nat → Prop) : Fr w w F := ⟨rfl, rfl, rfl, Nat.le_refl _, fun _ _ _ => rfl⟩
theorem Fr.mono {w w' : World} {F G : Nat → Prop} (h : Fr w w' F) (hG : ∀ b, F b → G b) : Fr w w' G := ⟨h.os, h.tape, h.output, h.size, fun k hk hn => h.block k hk fun hf => hn (hG k hf)⟩
/-- A step from footprint F to footprint F'. -/
def Stp (w w' : World) (F F' : Nat → Prop) : Prop := Fr w w' F ∧ ∀ b, F' b → F b ∨ w.heap.size ≤ b
theorem Stp.trans {w w1 w2 : World} {F F1 F2 : Nat → Prop} (h : Stp w w1 F F1) (k : Stp w1 w2 F1 F2) : Stp w w2 F F2 := by
  refine ⟨⟨k.1.os.trans h.1.os, k.1.tape.trans h.1.tape, k.1.output.trans h.1.output, Nat.le_trans h.1.size k.1.size, fun i hi hn => ?_⟩, fun b hb => ?_⟩
  · rw [k.1.block i (Nat.lt_of_lt_of_le hi h.1.size) (fun hf => ?_), h.1.block i hi hn]
    rcases h.2 i hf with h1 | h1
    · exact hn h1
    · omega
  · rcases k.2 b hb with h1 | h1
    · exact h.2 b h1
    · exact .inr (Nat.le_trans h.1.size h1)
theorem Fr.trans {w w1 w2 : World} {F : Nat → Prop} (h : Fr w w1 F) (k : Fr w1 w2 F) : Fr w w2 F := (Stp.trans (F1 := F) (F2 := F) ⟨h, fun _ hb => .inl hb⟩ ⟨k, fun _ hb => .inl hb⟩).1
theorem Fr.below {w w' : World} (h : Below w.heap.size w w') (F : Nat → Prop) : Fr w w' F := ⟨h.os, h.tape, h.output, h.size, fun k hk _ => h.block k hk⟩
theorem Fr.toBelow {w w' : World} {B : Nat} {F : Nat → Prop} (h : Fr w w' F) (hB : B ≤ w.heap.size) (hF : ∀ b, F b → B ≤ b) : Below B w w' :=
  ⟨h.os, h.tape, h.output, h.size, fun k hk => h.block k (by omega) fun hf => by have := hF k hf; omega⟩
theorem Fr.alloc {w w' : World} {F : Nat → Prop} (h : Fr w w' F) (o : Obj) : Fr w (w'.alloc o) F := h.trans (Fr.below (Below.alloc (Below.refl _ _) (Nat.le_refl _) o) F)
theorem Fr.drew {w w' : World} {F : Nat → Prop} (h : Fr w w' F) : Fr w w'.drew F := ⟨h.os, h.tape, h.output, h.size, h.block⟩
theorem Fr.drewN {w w' : World} {F : Nat → Prop} (h : Fr w w' F) (n : Nat) : Fr w (w'.drewN n) F := ⟨h.os, h.tape, h.output, h.size, h.block⟩
theorem Fr.setCell {w w' : World} {F : Nat → Prop} (h : Fr w w' F) {a : Addr} (ha : F a.block ∨ w.heap.size ≤ a.block) (v : Value) : Fr w (w'.setCell a v) F :=
  ⟨h.os, h.tape, h.output, by simpa [World.setCell] using h.size, fun k hk hn => by
    rw [Below.heap_setCell _ _ _ _ (fun e => by rcases ha with h1 | h1; exact hn (e ▸ h1); omega)]; exact h.block k hk hn⟩
theorem Fr.grown {w w1 w2 : World} {F : Nat → Prop} (h : Fr w w1 F) {row : Option Nat} (hg : w1.grownBy w2 row) (hr : ∀ b, row = some b → F b ∨ w.heap.size ≤ b) : Fr w w2 F :=
  ⟨hg.os.trans h.os, hg.tape.trans h.tape, hg.output.trans h.output, Nat.le_trans h.size hg.size, fun k hk hn => by
    rw [hg.block k (Nat.lt_of_lt_of_le hk h.size) (fun e => by rcases hr k e.symm with h1 | h1; exact hn h1; omega)]; exact h.block k hk hn⟩
theorem Fr.setBlock {w w' : World} {F : Nat → Prop} (h : Fr w w' F) {m : Nat} (hm : F m ∨ w.heap.size ≤ m) (o : Obj) : Fr w (ChangeMaps.setBlock w' m o) F :=
  ⟨h.os, h.tape, h.output, by simpa [ChangeMaps.setBlock] using h.size, fun k hk hn => by
    have hne : m ≠ k := fun e => by subst e; rcases hm with h1 | h1; exact hn h1; omega
    simp only [ChangeMaps.setBlock, Array.getElem?_setIfInBounds, hne, if_false]; exact h.block k hk hn⟩

/-- An image in memory: its pixels lie in a block of the call's own. -/
def ImIs (w : World) (B : Nat) (v : Value) (i : Mo.Im) : Prop := ∃ vp, v = .agg #[.int .i64 i.w, .int .i64 i.h, vp] ∧ w.ownsRow B 63 4 vp i.pix.length (flatP i.pix)
/-- Pixels that are only read. -/
structure PixIn (w : World) (A : Option Addr) (n : Nat) (xs : List Mo.Px) : Prop where
  len : xs.length = n
  room : n * 32 ≤ 140737488355328
  none0 : A = none → n = 0
  cell : ∀ ad, A = some ad → ∀ j u, (flatP xs)[j]? = some u → w.cell? (ad.add j) = some u
theorem PixIn.below {w w' : World} {A : Option Addr} {n : Nat} {xs : List Mo.Px} (h : PixIn w A n xs) (hb : Below w.heap.size w w') : PixIn w' A n xs :=
  ⟨h.len, h.room, h.none0, fun ad ha j u hu => by
    have := h.cell ad ha j u hu
    exact (hb.cell (World.block_lt_of_cell? w _ this)).trans this⟩
theorem PixIn.alloc {w : World} {A : Option Addr} {n : Nat} {xs : List Mo.Px} (h : PixIn w A n xs) (o : Obj) : PixIn (w.alloc o) A n xs := h.below (Below.alloc (Below.refl _ _) (Nat.le_refl _) o)
theorem PixIn.drew {w : World} {A : Option Addr} {n : Nat} {xs : List Mo.Px} (h : PixIn w A n xs) : PixIn w.drew A n xs := ⟨h.len, h.room, h.none0, h.cell⟩
/-- An image that is only read. -/
def InIm (w : World) (v : Value) (i : Mo.Im) : Prop :=
  ∃ A n c, v = .agg #[.int .i64 i.w, .int .i64 i.h, .slice A n c] ∧ PixIn w A n i.pix
theorem InIm.below {w w' : World} {v : Value} {i : Mo.Im} (h : InIm w v i) (hb : Below w.heap.size w w') : InIm w' v i := by
  obtain ⟨A, n, c, rfl, h⟩ := h
  exact ⟨A, n, c, rfl, h.below hb⟩
theorem ImIs.read {w : World} {B : Nat} {v : Value} {i : Mo.Im} (h : ImIs w B v i) (hn : i.pix.length * 32 ≤ 140737488355328) : InIm w v i := by
  obtain ⟨vp, rfl, ho⟩ := h
  rcases ho.2 with ⟨rfl, h0⟩ | ⟨g, cap, cur, rfl, rest⟩
  · exact ⟨none, 0, 0, rfl, h0, by omega, fun _ => rfl, fun ad h => by simp at h⟩
  · exact ⟨some ⟨g, 0, none⟩, _, cap, rfl, rfl, hn, fun h => by simp at h, fun ad ha => by
      simp only [Option.some.injEq] at ha; subst ha; exact ho.cells (g := g) rfl⟩

def RelI (w : World) (B : Nat) : Option Value → Option Mo.Im → Prop
  | none, none => True
  | some v, some i => ImIs w B v i
  | _, _ => False

theorem bcell {W w1 : World} (hb : Below W.heap.size W w1) : (∀ b o, b < W.heap.size → w1.cell? ⟨b, o, none⟩ = W.cell? ⟨b, o, none⟩) ∧ (∀ b o, b < W.heap.size → w1.frozen? ⟨b, o, none⟩ = W.frozen? ⟨b, o, none⟩) :=
  ⟨fun b o h => hb.cell (p := ⟨b, o, none⟩) h, fun b o h => hb.frozen (p := ⟨b, o, none⟩) h⟩
theorem own_slice {w : World} {B : Nat} {e : TypeId} {size n : Nat} {v : Value} {xs : List Value} (h : w.ownsRow B e size v n xs) : ∃ A c, v = .slice A n c := by
  rcases h.2 with ⟨rfl, rfl⟩ | ⟨g, cap, cur, rfl, _⟩
  · exact ⟨_, _, rfl⟩
  · exact ⟨_, _, rfl⟩

theorem blk3 {w : World} {b : Nat} {a0 a1 a2 : Value} {t : TypeId} (h : w.heap[b]? = some (.cells #[a0, a1, a2] t (0, 0))) :
    w.cell? ⟨b, 0, none⟩ = some a0 ∧ w.cell? ⟨b, 1, none⟩ = some a1 ∧ w.cell? ⟨b, 2, none⟩ = some a2 ∧ w.frozen? ⟨b, 0, none⟩ = false ∧ w.frozen? ⟨b, 1, none⟩ = false ∧ w.frozen? ⟨b, 2, none⟩ = false :=
  ⟨by simp [World.cell?, h], by simp [World.cell?, h], by simp [World.cell?, h], by simp [World.frozen?, h], by simp [World.frozen?, h], by simp [World.frozen?, h]⟩
theorem blk4 {w : World} {b : Nat} {a0 a1 a2 a3 : Value} {t : TypeId} (h : w.heap[b]? = some (.cells #[a0, a1, a2, a3] t (0, 0))) :
    w.cell? ⟨b, 0, none⟩ = some a0 ∧ w.cell? ⟨b, 1, none⟩ = some a1 ∧ w.cell? ⟨b, 2, none⟩ = some a2 ∧ w.cell? ⟨b, 3, none⟩ = some a3 ∧ w.frozen? ⟨b, 0, none⟩ = false ∧ w.frozen? ⟨b, 1, none⟩ = false ∧ w.frozen? ⟨b, 2, none⟩ = false ∧ w.frozen? ⟨b, 3, none⟩ = false :=
  ⟨by simp [World.cell?, h], by simp [World.cell?, h], by simp [World.cell?, h], by simp [World.cell?, h], by simp [World.frozen?, h], by simp [World.frozen?, h], by simp [World.frozen?, h], by simp [World.frozen?, h]⟩
theorem blk5 {w : World} {b : Nat} {a0 a1 a2 a3 a4 : Value} {t : TypeId} (h : w.heap[b]? = some (.cells #[a0, a1, a2, a3, a4] t (0, 0))) :
    w.cell? ⟨b, 0, none⟩ = some a0 ∧ w.cell? ⟨b, 1, none⟩ = some a1 ∧ w.cell? ⟨b, 2, none⟩ = some a2 ∧ w.cell? ⟨b, 3, none⟩ = some a3 ∧ w.cell? ⟨b, 4, none⟩ = some a4 ∧ w.frozen? ⟨b, 0, none⟩ = false ∧ w.frozen? ⟨b, 1, none⟩ = false ∧ w.frozen? ⟨b, 2, none⟩ = false ∧ w.frozen? ⟨b, 3, none⟩ = false ∧ w.frozen? ⟨b, 4, none⟩ = false :=
  ⟨by simp [World.cell?, h], by simp [World.cell?, h], by simp [World.cell?, h], by simp [World.cell?, h], by simp [World.cell?, h], by simp [World.frozen?, h], by simp [World.frozen?, h], by simp [World.frozen?, h], by simp [World.frozen?, h], by simp [World.frozen?, h]⟩
theorem blk_in {w w' : World} {b : Nat} {o : Obj} (hb : Below w.heap.size w w') (h : w.heap[b]? = some o) : w'.heap[b]? = some o := (hb.block b (Array.getElem?_eq_some_iff.1 h).1).trans h
theorem blk_alloc {w : World} {b : Nat} {o : Obj} (o' : Obj) (h : w.heap[b]? = some o) : (w.alloc o').heap[b]? = some o := (Below.heap_alloc w o' b (Array.getElem?_eq_some_iff.1 h).1).trans h
theorem blk_new (w : World) (o : Obj) : (w.alloc o).heap[w.heap.size]? = some o := heap_alloc_new w o

structure CRep (w : World) (B p : Nat) (s : Mo.Ca) (m : Nat) (vo : Value) (ms : List (Mo.Ky × Value)) : Prop where
  blk : w.heap[p]? = some (.cells #[.int .i64 s.bud, .map (some m), vo, .int .i64 s.ev] 47 (0, 0))
  map : MapIs w m ms
  ord : w.ownsRow B 29 5 vo s.l.length (flatK (Mo.keys s))
  nd : (ms.map (·.1)).Nodup
  ims : ∀ k, RelI w B (Mo.look k ms) (Mo.look k s.l)
  hp : B ≤ p
  hm : B ≤ m

def foot (p : Nat) (l : List (Option Nat)) : Nat → Prop := fun b => b = p ∨ some b ∈ l

/-- The program's cache s at p; F: its own blocks. -/
def CAt (w : World) (B p : Nat) (s : Mo.Ca) (F : Nat → Prop) : Prop := Mo.Ok s ∧ B ≤ w.heap.size ∧ ∃ m vo ms, CRep w B p s m vo ms ∧ F = foot p [some m, vo.ownBlock]

def icells (v : Value) : List Value := v.cells.toList
structure RRep (w : World) (B p : Nat) (s : Mo.Ca) (vk vi : Value) (vs : List Value) : Prop where
  blk : w.heap[p]? = some (.cells #[.int .i64 s.bud, .int .i64 s.ev, vk, vi, .bool true] 50 (0, 0))
  ks : w.ownsRow B 29 5 vk s.l.length (flatK (Mo.keys s))
  is : w.ownsRow B 32 3 vi s.l.length (vs.flatMap icells)
  len : vs.length = s.l.length
  im : ∀ (j : Nat) (v : Value) (i : Mo.Im), vs[j]? = some v → (s.l.map (·.2))[j]? = some i → ImIs w B v i
  hp : B ≤ p
/-- The reference's cache. -/
def RAt (w : World) (B p : Nat) (s : Mo.Ca) (F : Nat → Prop) : Prop := Mo.Ok s ∧ B ≤ w.heap.size ∧ ∃ vk vi vs, RRep w B p s vk vi vs ∧ F = foot p [vk.ownBlock, vi.ownBlock]

theorem own_frame {w w' : World} {F : Nat → Prop} {B : Nat} {e : TypeId} {size n : Nat} {v : Value} {xs : List Value} (h : w.ownsRow B e size v n xs) (hf : Fr w w' F) (hne : ∀ b, v.ownBlock = some b → ¬ F b) : w'.ownsRow B e size v n xs := by
  refine ⟨h.1, ?_⟩
  rcases h.2 with hn | ⟨g, cap, cur, rfl, hb, hgg, rest⟩
  · exact .inl hn
  · exact .inr ⟨g, cap, cur, rfl, hb, (hf.block g (Array.getElem?_eq_some_iff.1 hgg).1 (hne g rfl)).trans hgg, rest⟩
theorem own_typed {w : World} {B : Nat} {e : TypeId} {size n : Nat} {v : Value} {xs : List Value} (h : w.ownsRow B e size v n xs) (b : Nat) (hb : v.ownBlock = some b) : ∃ cs, w.heap[b]? = some (.cells cs e (0, 0)) := by
  rcases h.2 with ⟨rfl, _⟩ | ⟨g, cap, cur, rfl, _, hgg, _⟩
  · simp [Value.ownBlock] at hb
  · simp only [Value.ownBlock, Option.some.injEq] at hb; subst hb; exact ⟨cur, hgg⟩
def NotPix (w : World) (b : Nat) : Prop := ∀ cs fr, w.heap[b]? ≠ some (.cells cs 63 fr)
theorem ImIs.frame {w w' : World} {F : Nat → Prop} {B : Nat} {v : Value} {i : Mo.Im} (h : ImIs w B v i) (hf : Fr w w' F) (hF : ∀ b, F b → NotPix w b) : ImIs w' B v i := by
  obtain ⟨vp, rfl, ho⟩ := h
  refine ⟨vp, rfl, own_frame ho hf fun b hb hFb => ?_⟩
  obtain ⟨cs, hc⟩ := own_typed ho b hb
  exact hF b hFb _ _ hc
theorem RelI.frame {w w' : World} {F : Nat → Prop} {B : Nat} {v : Option Value} {i : Option Mo.Im} (h : RelI w B v i) (hf : Fr w w' F) (hF : ∀ b, F b → NotPix w b) : RelI w' B v i := by
  cases v <;> cases i <;> simp only [RelI] at h ⊢
  exact h.frame hf hF
theorem MapIs.frame {w w' : World} {F : Nat → Prop} {m : Nat} {ms : List (Mo.Ky × Value)} (h : MapIs w m ms) (hf : Fr w w' F) (hne : ¬ F m) : MapIs w' m ms := by
  obtain ⟨es, c, hb, he⟩ := h
  exact ⟨es, c, (hf.block m (Array.getElem?_eq_some_iff.1 hb).1 hne).trans hb, he⟩

theorem blk_set {w : World} {b : Nat} {cs : Array Value} {t : TypeId} {fr : Nat × Nat} (h : w.heap[b]? = some (.cells cs t fr)) (i : Nat) (v : Value) : (w.setCell ⟨b, i, none⟩ v).heap[b]? = some (.cells (cs.setIfInBounds i v) t fr) := by
  simp [World.setCell, Array.getElem?_modify, h]
theorem blk_far {w : World} {b : Nat} {o : Obj} (h : w.heap[b]? = some o) {a : Addr} (hne : b ≠ a.block) (v : Value) : (w.setCell a v).heap[b]? = some o := (Below.heap_setCell w a v b hne).trans h
theorem own_set {w : World} {B : Nat} {e : TypeId} {size n : Nat} {v : Value} {xs : List Value} (h : w.ownsRow B e size v n xs) {a : Addr} (hne : v.ownBlock ≠ some a.block) (u : Value) : (w.setCell a u).ownsRow B e size v n xs :=
  own_frame h ((Fr.refl w (fun b => b = a.block)).setCell (a := a) (.inl rfl) u) fun _ hb e => hne (e ▸ hb)
theorem own_notblock {w : World} {B : Nat} {e t : TypeId} {size n : Nat} {v : Value} {xs : List Value} (h : w.ownsRow B e size v n xs) {p : Nat} {cs : Array Value} {fr : Nat × Nat} (hp : w.heap[p]? = some (.cells cs t fr)) (ht : e ≠ t) : v.ownBlock ≠ some p := by
  intro hv
  obtain ⟨cs', hc⟩ := own_typed h p hv
  rw [hp] at hc
  simp only [Option.some.injEq, Obj.cells.injEq] at hc
  exact ht hc.2.1.symm

theorem CAt.notPix {w : World} {B p : Nat} {s : Mo.Ca} {F : Nat → Prop} (h : CAt w B p s F) : ∀ b, F b → NotPix w b := by
  obtain ⟨_, _, m, vo, ms, hr, rfl⟩ := h
  rintro b hb cs fr he
  rcases hb with rfl | hb
  · rw [hr.blk] at he; simp at he
  · simp only [List.mem_cons, Option.some.injEq, List.not_mem_nil, or_false] at hb
    rcases hb with rfl | hb
    · obtain ⟨es, c, hm, _⟩ := hr.map
      rw [hm] at he; simp at he
    · obtain ⟨cs', hc⟩ := own_typed hr.ord b hb.symm
      rw [hc] at he; simp at he
theorem CAt.lt {w : World} {B p : Nat} {s : Mo.Ca} {F : Nat → Prop} (h : CAt w B p s F) : ∀ b, F b → B ≤ b ∧ b < w.heap.size := by
  obtain ⟨_, _, m, vo, ms, hr, rfl⟩ := h
  rintro b hb
  rcases hb with rfl | hb
  · exact ⟨hr.hp, (Array.getElem?_eq_some_iff.1 hr.blk).1⟩
  · simp only [List.mem_cons, Option.some.injEq, List.not_mem_nil, or_false] at hb
    rcases hb with rfl | hb
    · obtain ⟨es, c, hm, _⟩ := hr.map
      exact ⟨hr.hm, (Array.getElem?_eq_some_iff.1 hm).1⟩
    · exact hr.ord.lt b hb.symm
theorem CAt.frame {w w' : World} {B p : Nat} {s : Mo.Ca} {F G : Nat → Prop} (h : CAt w B p s F) (hf : Fr w w' G) (hd : ∀ b, F b → ¬ G b) (hG : ∀ b, G b → NotPix w b) : CAt w' B p s F := by
  obtain ⟨hok, hB, m, vo, ms, hr, rfl⟩ := h
  refine ⟨hok, Nat.le_trans hB hf.size, m, vo, ms, ⟨?_, ?_, ?_, hr.nd, fun k => (hr.ims k).frame hf hG, hr.hp, hr.hm⟩, rfl⟩
  · exact (hf.block p (Array.getElem?_eq_some_iff.1 hr.blk).1 (hd p (.inl rfl))).trans hr.blk
  · exact hr.map.frame hf (hd m (.inr (by simp)))
  · exact own_frame hr.ord hf fun b hb => hd b (.inr (by simp [hb]))

theorem RAt.notPix {w : World} {B p : Nat} {s : Mo.Ca} {F : Nat → Prop} (h : RAt w B p s F) : ∀ b, F b → NotPix w b := by
  obtain ⟨_, _, vk, vi, vs, hr, rfl⟩ := h
  rintro b hb cs fr he
  rcases hb with rfl | hb
  · rw [hr.blk] at he; simp at he
  · simp only [List.mem_cons, List.not_mem_nil, or_false] at hb
    rcases hb with hb | hb
    · obtain ⟨cs', hc⟩ := own_typed hr.ks b hb.symm
      rw [hc] at he; simp at he
    · obtain ⟨cs', hc⟩ := own_typed hr.is b hb.symm
      rw [hc] at he; simp at he
theorem RAt.lt {w : World} {B p : Nat} {s : Mo.Ca} {F : Nat → Prop} (h : RAt w B p s F) : ∀ b, F b → B ≤ b ∧ b < w.heap.size := by
  obtain ⟨_, _, vk, vi, vs, hr, rfl⟩ := h
  rintro b hb
  rcases hb with rfl | hb
  · exact ⟨hr.hp, (Array.getElem?_eq_some_iff.1 hr.blk).1⟩
  · simp only [List.mem_cons, List.not_mem_nil, or_false] at hb
    rcases hb with hb | hb
    · exact hr.ks.lt b hb.symm
    · exact hr.is.lt b hb.symm
theorem RAt.frame {w w' : World} {B p : Nat} {s : Mo.Ca} {F G : Nat → Prop} (h : RAt w B p s F) (hf : Fr w w' G) (hd : ∀ b, F b → ¬ G b) (hG : ∀ b, G b → NotPix w b) : RAt w' B p s F := by
  obtain ⟨hok, hB, vk, vi, vs, hr, rfl⟩ := h
  refine ⟨hok, Nat.le_trans hB hf.size, vk, vi, vs, ⟨?_, ?_, ?_, hr.len, fun j v i h1 h2 => (hr.im j v i h1 h2).frame hf hG, hr.hp⟩, rfl⟩
  · exact (hf.block p (Array.getElem?_eq_some_iff.1 hr.blk).1 (hd p (.inl rfl))).trans hr.blk
  · exact own_frame hr.ks hf fun b hb => hd b (.inr (by simp [hb]))
  · exact own_frame hr.is hf fun b hb => hd b (.inr (by simp [hb]))

end Go.Proofs.Ytpdjfcnlbaaogaa
