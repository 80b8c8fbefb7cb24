/- A list of calls that came in, opened. -/
import Derived.Test.YtpdjfcnlbaaogaaEx
import Derived.Deep.SlicePairs
import Derived.SizedLaws
namespace Go.Proofs.Ytpdjfcnlbaaogaa
open Go.RowKit Go.Deep Go.ChangeShapes

section
variable {H : Type} {enc : TypeId × Value → H} {w : World} {base : Nat} {spare : Nat → Bool} {held : Bool}

theorem cells3 : Try.prog.cellsOf 3 = 1 := by kernel_rfl
theorem cells29 : Try.prog.cellsOf 29 = 5 := by kernel_rfl
theorem cells30 : Try.prog.cellsOf 30 = 1 := by kernel_rfl
theorem cells32 : Try.prog.cellsOf 32 = 3 := by kernel_rfl
theorem cells34 : Try.prog.cellsOf 34 = 10 := by kernel_rfl
theorem cells63 : Try.prog.cellsOf 63 = 4 := by kernel_rfl
theorem bytes63 : Try.prog.bytesOf 63 = 32 := by kernel_rfl
theorem bytes34 : Try.prog.bytesOf 34 = 96 := by kernel_rfl

theorem int_of {n : Nat} {v : Value} {y : DataW H × List MemPlace} (h : DataW.trod enc Try.prog w base spare held n 3 [v] = some y) : ∃ z, v = .int .i64 z := by
  cases n with
  | zero => simp [DataW.trod] at h
  | succ n =>
    unfold DataW.trod at h
    rw [Try.underlying3] at h
    split at h <;> simp_all

theorem key_of {n : Nat} {cs : List Value} {y : DataW H × List MemPlace} (h : DataW.trod enc Try.prog w base spare held n 29 cs = some y) : ∃ k : Mo.Ky, cs = kcells k := by
  obtain ⟨xs, m, _, _, hl, hx, hf⟩ := DataW.trod_struct Try.underlying29 h
  rw [cells29] at hl
  match cs, hl, xs, hx with
  | [v0, v1, v2, v3, v4], _, [y0, y1, y2, y3, y4], _ =>
    have g0 := hf 0 _ rfl
    have g1 := hf 1 _ rfl
    have g2 := hf 2 _ rfl
    have g3 := hf 3 _ rfl
    have g4 := hf 4 _ rfl
    simp [cells3] at g0 g1 g2 g3 g4
    obtain ⟨z0, rfl⟩ := int_of g0
    obtain ⟨z1, rfl⟩ := int_of g1
    obtain ⟨z2, rfl⟩ := int_of g2
    obtain ⟨z3, rfl⟩ := int_of g3
    obtain ⟨z4, rfl⟩ := int_of g4
    exact ⟨⟨z0, z1, z2, z3, z4⟩, rfl⟩
theorem px_of {n : Nat} {cs : List Value} {y : DataW H × List MemPlace} (h : DataW.trod enc Try.prog w base spare held n 63 cs = some y) : ∃ k : Mo.Px, cs = pcells k := by
  obtain ⟨xs, m, _, _, hl, hx, hf⟩ := DataW.trod_struct Try.underlying63 h
  rw [cells63] at hl
  match cs, hl, xs, hx with
  | [v0, v1, v2, v3], _, [y0, y1, y2, y3], _ =>
    have g0 := hf 0 _ rfl
    have g1 := hf 1 _ rfl
    have g2 := hf 2 _ rfl
    have g3 := hf 3 _ rfl
    simp [cells3] at g0 g1 g2 g3
    obtain ⟨z0, rfl⟩ := int_of g0
    obtain ⟨z1, rfl⟩ := int_of g1
    obtain ⟨z2, rfl⟩ := int_of g2
    obtain ⟨z3, rfl⟩ := int_of g3
    exact ⟨⟨z0, z1, z2, z3⟩, rfl⟩

/-- The rows of a flat list, by the element. -/
theorem flatP_get (xs : List Mo.Px) (j : Nat) (u : Value) (h : (flatP xs)[j]? = some u) : ∃ hj : j / 4 < xs.length, (pcells xs[j / 4])[j % 4]? = some u := by
  have hl := (List.getElem?_eq_some_iff.1 h).1
  rw [flatP_length] at hl
  have hj : j / 4 < xs.length := by omega
  obtain ⟨h0, h1, h2, h3⟩ := flatP_at xs (j / 4) hj
  refine ⟨hj, ?_⟩
  have hm : j % 4 < 4 := Nat.mod_lt _ (by omega)
  have e : j = j / 4 * 4 + j % 4 := by omega
  generalize j / 4 = q at *
  generalize j % 4 = r at *
  subst e
  match r, hm with
  | 0, _ => simpa [pcells] using h0.symm.trans h
  | 1, _ => simpa [pcells] using h1.symm.trans h
  | 2, _ => simpa [pcells] using h2.symm.trans h
  | 3, _ => simpa [pcells] using h3.symm.trans h

theorem pix_of {n : Nat} {v : Value} {y : DataW H × List MemPlace} (h : DataW.trod enc Try.prog w base spare held n 30 [v] = some y) (hw : ∀ m ∈ y.1.weights Try.prog 30, m ≤ reachBytes) :
    ∃ A len c xs, v = .slice A len c ∧ PixIn w A len xs := by
  rcases open_slice Try.underlying30 h with ⟨hc, _⟩ | ⟨a, len, cap, m, n', D, Pl, hc, _, hl, _, hmm, rfl, hx⟩
  · simp only [List.cons.injEq, and_true] at hc
    subst hc
    exact ⟨none, 0, 0, [], rfl, rfl, by omega, fun _ => rfl, fun ad h => by simp at h⟩
  · simp only [List.cons.injEq, and_true] at hc
    subst hc
    have hlm : len ≤ m := by rw [hmm]; split <;> omega
    have hsz := hw ((((List.range len).map D).length + ((List.range (m - len)).map fun j => D (len + j)).length) * Try.prog.bytesOf 63) (by simp [DataW.weights, Try.underlying30])
    rw [bytes63] at hsz
    simp only [List.length_map, List.length_range, reachBytes] at hsz
    have hpx : ∀ i, i < len → ∃ k : Mo.Px, ∀ t u, (pcells k)[t]? = some u → w.cell? (a.add (i * 4 + t)) = some u := by
      intro i hi
      obtain ⟨cs', h1, h2⟩ := hx i (by omega)
      rw [cells63] at h1
      obtain ⟨_, hlen, hcell⟩ := World.cells?_some h1
      obtain ⟨k, rfl⟩ := px_of h2
      refine ⟨k, fun t u hu => ?_⟩
      have ht : t < 4 := by have := (List.getElem?_eq_some_iff.1 hu).1; simpa [pcells] using this
      have := hcell t ht
      rw [add_add] at this
      rw [this, hu]
    obtain ⟨f, hf⟩ := @choose_lt Mo.Px ⟨⟨0, 0, 0, 0⟩⟩ len _ hpx
    refine ⟨some a, len, cap, (List.range len).map f, rfl, by simp, by omega, fun h => by simp at h, ?_⟩
    rintro ad ⟨rfl⟩ j u hu
    obtain ⟨hj, h4⟩ := flatP_get _ j u hu
    simp only [List.length_map, List.length_range] at hj
    simp only [List.getElem_map, List.getElem_range] at h4
    have := hf (j / 4) hj (j % 4) u h4
    rwa [show j / 4 * 4 + j % 4 = j by omega] at this

theorem im_of {n : Nat} {cs : List Value} {y : DataW H × List MemPlace} (h : DataW.trod enc Try.prog w base spare held n 32 cs = some y) (hw : ∀ m ∈ y.1.weights Try.prog 32, m ≤ reachBytes) :
    ∃ (i : Mo.Im) (A : Option Addr) (len c : Nat), cs = [.int .i64 i.w, .int .i64 i.h, .slice A len c] ∧ PixIn w A len i.pix := by
  obtain ⟨xs, m, _, rfl, hl, hx, hf⟩ := DataW.trod_struct Try.underlying32 h
  rw [cells32] at hl
  match cs, hl, xs, hx with
  | [v0, v1, v2], _, [y0, y1, y2], _ =>
    have g0 := hf 0 _ rfl
    have g1 := hf 1 _ rfl
    have g2 := hf 2 _ rfl
    simp [cells3, cells30] at g0 g1 g2
    obtain ⟨z0, rfl⟩ := int_of g0
    obtain ⟨z1, rfl⟩ := int_of g1
    obtain ⟨A, len, c, xs, rfl, hp⟩ := pix_of g2 (fun m hm => hw m (by simp [DataW.weights, Try.underlying32, DataW.weightsEach, hm]))
    exact ⟨⟨z0, z1, xs⟩, A, len, c, rfl, hp⟩

structure Row where
  x : Mo.Cl
  A : Option Addr
  n : Nat
  c : Nat
instance : Inhabited Row := ⟨⟨⟨0, 0, ⟨0, 0, 0, 0, 0⟩, ⟨0, 0, []⟩⟩, none, 0, 0⟩⟩
def Row.cells (r : Row) : List Value := [.int .i64 r.x.kind, .int .i64 r.x.n, .int .i64 r.x.k.node, .int .i64 r.x.k.stamp, .int .i64 r.x.k.level, .int .i64 r.x.k.x, .int .i64 r.x.k.y, .int .i64 r.x.i.w, .int .i64 r.x.i.h, .slice r.A r.n r.c]

theorem call_of {n : Nat} {cs : List Value} {y : DataW H × List MemPlace} (h : DataW.trod enc Try.prog w base spare held n 34 cs = some y) (hw : ∀ m ∈ y.1.weights Try.prog 34, m ≤ reachBytes) :
    ∃ r : Row, cs = r.cells ∧ PixIn w r.A r.n r.x.i.pix := by
  obtain ⟨xs, m, _, rfl, hl, hx, hf⟩ := DataW.trod_struct Try.underlying34 h
  rw [cells34] at hl
  match cs, hl, xs, hx with
  | [v0, v1, v2, v3, v4, v5, v6, v7, v8, v9], _, [y0, y1, y2, y3], _ =>
    have g0 := hf 0 _ rfl
    have g1 := hf 1 _ rfl
    have g2 := hf 2 _ rfl
    have g3 := hf 3 _ rfl
    simp [cells3, cells29, cells32] at g0 g1 g2 g3
    obtain ⟨z0, rfl⟩ := int_of g0
    obtain ⟨z1, rfl⟩ := int_of g1
    obtain ⟨k, hk⟩ := key_of g2
    obtain ⟨i, A, len, c, hi, hp⟩ := im_of g3 (fun m hm => hw m (by simp [DataW.weights, Try.underlying34, DataW.weightsEach, hm]))
    simp only [kcells, List.cons.injEq, and_true] at hk hi
    obtain ⟨rfl, rfl, rfl, rfl, rfl⟩ := hk
    obtain ⟨rfl, rfl, rfl⟩ := hi
    exact ⟨⟨⟨z0, z1, k, i⟩, A, len, c⟩, rfl, hp⟩

/-- A list of calls that is only read. -/
structure CIn (w : World) (A : Option Addr) (n : Nat) (rs : List Row) : Prop where
  len : rs.length = n
  room : n * 96 ≤ 140737488351232
  none0 : A = none → n = 0
  cell : ∀ ad, A = some ad → ∀ j, (hj : j < rs.length) → ∀ t u, (rs[j].cells)[t]? = some u → w.cell? (ad.add (j * 10 + t)) = some u
  pix : ∀ j, (hj : j < rs.length) → PixIn w rs[j].A rs[j].n rs[j].x.i.pix

theorem weights_all {P : Program} {e : TypeId} {l : List (DataW H)} {d : DataW H} (h : d ∈ l) {m : Nat} (hm : m ∈ d.weights P e) : m ∈ DataW.weightsAll P e l := by
  induction l with
  | nil => simp at h
  | cons a r ih =>
    simp only [DataW.weightsAll, List.mem_append]
    rcases List.mem_cons.1 h with rfl | h
    · exact .inl hm
    · exact .inr (ih h)

theorem calls_of {n : Nat} {A : Option Addr} {len cap : Nat} {y : DataW H × List MemPlace} (h : DataW.trod enc Try.prog w base spare held n 22 [.slice A len cap] = some y) (hw : ∀ m ∈ y.1.weights Try.prog 22, m ≤ reachBytes) :
    ∃ rs, CIn w A len rs := by
  rcases open_slice Try.underlying22 h with ⟨hc, _⟩ | ⟨a, len', cap', m, n', D, Pl, hc, _, hl, _, hmm, rfl, hx⟩
  · simp only [List.cons.injEq, and_true, Value.slice.injEq] at hc
    obtain ⟨rfl, rfl, rfl⟩ := hc
    exact ⟨[], rfl, by omega, fun _ => rfl, fun ad h => by simp at h, fun j hj => by simp at hj⟩
  · simp only [List.cons.injEq, and_true, Value.slice.injEq] at hc
    obtain ⟨rfl, rfl, rfl⟩ := hc
    have hlm : len ≤ m := by rw [hmm]; split <;> omega
    have hsz := hw ((((List.range len).map D).length + ((List.range (m - len)).map fun j => D (len + j)).length) * Try.prog.bytesOf 34) (by simp [DataW.weights, Try.underlying22])
    rw [bytes34] at hsz
    simp only [List.length_map, List.length_range, reachBytes] at hsz
    have hpx : ∀ i, i < len → ∃ r : Row, (∀ t u, (r.cells)[t]? = some u → w.cell? (a.add (i * 10 + t)) = some u) ∧ PixIn w r.A r.n r.x.i.pix := by
      intro i hi
      obtain ⟨cs', h1, h2⟩ := hx i (by omega)
      rw [cells34] at h1
      obtain ⟨_, hlen, hcell⟩ := World.cells?_some h1
      obtain ⟨r, rfl, hp⟩ := call_of h2 (fun m hm => hw m (by
        simp only [DataW.weights, Try.underlying22]
        exact List.mem_cons_of_mem _ (List.mem_append_left _ (weights_all (List.mem_map.2 ⟨i, List.mem_range.2 hi, rfl⟩) hm))))
      refine ⟨r, fun t u hu => ?_, hp⟩
      have ht : t < 10 := by have := (List.getElem?_eq_some_iff.1 hu).1; simpa [Row.cells] using this
      have := hcell t ht
      rw [add_add] at this
      rw [this, hu]
    obtain ⟨f, hf⟩ := choose_lt hpx
    refine ⟨(List.range len).map f, by simp, by omega, fun h => by simp at h, ?_, ?_⟩
    · rintro ad ⟨rfl⟩ j hj t u hu
      simp only [List.length_map, List.length_range] at hj
      simp only [List.getElem_map, List.getElem_range] at hu
      exact (hf j hj).1 t u hu
    · intro j hj
      simp only [List.length_map, List.length_range] at hj
      simp only [List.getElem_map, List.getElem_range]
      exact (hf j hj).2
end
end Go.Proofs.Ytpdjfcnlbaaogaa
