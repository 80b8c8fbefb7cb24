/- What Go's map does at keys that are structs of five integers: look up, store, delete, as run equations over an association list. -/
import Derived.Test.YtpdjfcnlbaaogaaRows
import Derived.Test.YtpdjfcnlbaaogaaModel
import Derived.WalkKit
import Derived.WalkSpells
import Derived.MapKept
import Derived.ChangeMaps4
import Derived.Laws.StructEq
import Derived.WalkLawsBesides
import Derived.Below
namespace Go.Proofs.Ytpdjfcnlbaaogaa
open Go.RowKit

def kv (k : Mo.Ky) : Value := .agg #[.int .i64 k.node, .int .i64 k.stamp, .int .i64 k.level, .int .i64 k.x, .int .i64 k.y]

theorem equal29 (w : World) (a b : Mo.Ky) : (Op.equal 29 (kv a) (kv b)).run Try.prog w = .ok (decide (a = b)) w := by
  have hu := Try.underlying29
  have h3 := Try.underlying3
  obtain ⟨a1, a2, a3, a4, a5⟩ := a
  obtain ⟨b1, b2, b3, b4, b5⟩ := b
  simp only [Op.equal, Op.maxDepth, kv]
  go_simp
  by_cases e1 : a1 = b1 <;> by_cases e2 : a2 = b2 <;> by_cases e3 : a3 = b3 <;> by_cases e4 : a4 = b4 <;> by_cases e5 : a5 = b5 <;> simp [e1, e2, e3, e4, e5]
theorem checkKey29 (e : Bool) (w : World) (k : Mo.Ky) : (Instr.checkKey e 10000 29 (kv k)).run Try.prog w = .ok () w := by
  kernel_rfl

/-- The entries of a map block, as an association list. -/
def Ents (es : Array MapEntry) (ms : List (Mo.Ky × Value)) : Prop := es.toList.map (fun e => (e.key, e.val)) = ms.map (fun p => (kv p.1, p.2))

def MapIs (w : World) (m : Nat) (ms : List (Mo.Ky × Value)) : Prop := ∃ es clock, w.heap[m]? = some (.map es clock) ∧ Ents es ms

/-- Where a key stands. -/
def seek (k : Mo.Ky) : List (Mo.Ky × Value) → Nat → Option (Nat × Value)
  | [], _ => none
  | p :: r, i => if k = p.1 then some (i, p.2) else seek k r (i + 1)

theorem findAsking29 (w : World) (k : Mo.Ky) : ∀ (l : List MapEntry) (ms : List (Mo.Ky × Value)) (i : Nat), l.map (fun e => (e.key, e.val)) = ms.map (fun p => (kv p.1, p.2)) →
    (Instr.findAsking 29 (kv k) l i).run Try.prog w = .ok (seek k ms i) w
  | [], [], i, _ => by simp [Instr.findAsking, seek]
  | [], _ :: _, _, h => by simp at h
  | _ :: _, [], _, h => by simp at h
  | e :: l, p :: ms, i, h => by
    simp only [List.map_cons, List.cons.injEq, Prod.mk.injEq] at h
    obtain ⟨⟨h1, h2⟩, h3⟩ := h
    simp only [Instr.findAsking, Sem.run_bind, h1, equal29, Result.andThen_ok]
    by_cases hk : k = p.1
    · simp [hk, seek, h2]
    · simp [hk, seek, findAsking29 w k l ms (i + 1) h3]

theorem findKey29 (w : World) (k : Mo.Ky) (l : List MapEntry) (ms : List (Mo.Ky × Value)) (h : l.map (fun e => (e.key, e.val)) = ms.map (fun p => (kv p.1, p.2))) :
    (Instr.findKey 29 (kv k) l).run Try.prog w = .ok (seek k ms 0) w := by
  have hu := Try.underlying29
  cases l with
  | nil =>
    cases ms with
    | nil => simp [Instr.findKey, run_underlying hu, Instr.findNow, seek]
    | cons p ms => simp at h
  | cons e l =>
    have hf := findAsking29 w k (e :: l) ms 0 h
    simp only [Instr.findKey, Sem.run_bind, run_underlying hu, Result.andThen_ok, Instr.findNow, Instr.sameNow, hf]


theorem zero32 (w : World) : (zeroValue 32).run Try.prog w = .ok (.agg #[.int .i64 0, .int .i64 0, .slice none 0 0]) w := by kernel_rfl

theorem lookup45 (w : World) (m : Nat) (k : Mo.Ky) (es : Array MapEntry) (clock : Nat) (ms : List (Mo.Ky × Value)) (hb : w.heap[m]? = some (.map es clock)) (he : Ents es ms) :
    (Instr.lookup 45 (.map (some m)) (kv k) true).run Try.prog w = .ok (.tuple #[((seek k ms 0).map (·.2)).getD (.agg #[.int .i64 0, .int .i64 0, .slice none 0 0]), .bool (seek k ms 0).isSome]) w := by
  have hu := Try.underlying45
  simp only [Instr.lookup, Sem.run_bind, run_underlying hu, Result.andThen_ok, MapKept.run_getObj_map hb, Sem.run_pure, checkKey29, findKey29 w k _ ms he]
  cases hs : seek k ms 0 with
  | none => simp
  | some p => simp

def upd (k : Mo.Ky) (v : Value) : List (Mo.Ky × Value) → List (Mo.Ky × Value)
  | [] => [(k, v)]
  | p :: r => if k = p.1 then (k, v) :: r else p :: upd k v r
def del (k : Mo.Ky) : List (Mo.Ky × Value) → List (Mo.Ky × Value)
  | [] => []
  | p :: r => if k = p.1 then r else p :: del k r

theorem seek_none (k : Mo.Ky) : ∀ (ms : List (Mo.Ky × Value)) (i : Nat), seek k ms i = none → (∀ v, upd k v ms = ms ++ [(k, v)]) ∧ del k ms = ms ∧ Mo.look k ms = none
  | [], _, _ => by simp [upd, del, Mo.look]
  | p :: r, i, h => by
    by_cases hk : k = p.1
    · simp [seek, hk] at h
    · simp only [seek, hk, if_false] at h
      obtain ⟨h1, h2, h3⟩ := seek_none k r (i + 1) h
      refine ⟨fun v => by simp [upd, hk, h1], by simp [del, hk, h2], ?_⟩
      have : (p.1 == k) = false := by simp [Ne.symm hk]
      simpa [Mo.look, List.find?_cons, this] using h3

theorem seek_some (k : Mo.Ky) : ∀ (ms : List (Mo.Ky × Value)) (i j : Nat) (v : Value), seek k ms i = some (j, v) →
    i ≤ j ∧ j - i < ms.length ∧ ms[j - i]? = some (k, v) ∧ (∀ u, upd k u ms = ms.set (j - i) (k, u)) ∧ del k ms = ms.eraseIdx (j - i) ∧ Mo.look k ms = some v
  | [], _, _, _, h => by simp [seek] at h
  | p :: r, i, j, v, h => by
    by_cases hk : k = p.1
    · simp only [seek, hk, if_true, Option.some.injEq, Prod.mk.injEq] at h
      obtain ⟨rfl, rfl⟩ := h
      refine ⟨Nat.le_refl _, by simp, by simp [hk], fun u => by simp [upd, hk], by simp [del, hk], ?_⟩
      simp [Mo.look, hk]
    · simp only [seek, hk, if_false] at h
      obtain ⟨h1, h2, h3, h4, h5, h6⟩ := seek_some k r (i + 1) j v h
      have e : j - i = (j - (i + 1)) + 1 := by omega
      have : (p.1 == k) = false := by simp [Ne.symm hk]
      refine ⟨by omega, by simp; omega, by rw [e]; simpa using h3, fun u => by rw [e]; simp [upd, hk, h4], by rw [e]; simp [del, hk, h5], ?_⟩
      simpa [Mo.look, List.find?_cons, this] using h6

theorem look_eq_seek (k : Mo.Ky) (ms : List (Mo.Ky × Value)) : Mo.look k ms = (seek k ms 0).map (·.2) := by
  cases h : seek k ms 0 with
  | none => simpa using (seek_none k ms 0 h).2.2
  | some p => obtain ⟨j, v⟩ := p; simpa using (seek_some k ms 0 j v h).2.2.2.2.2

theorem sameBits_kv (k : Mo.Ky) : Instr.sameBits 10000 (kv k) (kv k) = true := by
  simp [Instr.sameBits, kv]

theorem update45 (w : World) (m : Nat) (k : Mo.Ky) (v : Value) (es : Array MapEntry) (clock : Nat) (ms : List (Mo.Ky × Value)) (hb : w.heap[m]? = some (.map es clock)) (he : Ents es ms) :
    ∃ es' clock', (Instr.mapUpdate 45 (.map (some m)) (kv k) v).run Try.prog w = .ok () (ChangeMaps.setBlock w m (.map es' clock')) ∧ Ents es' (upd k v ms) := by
  have hu := Try.underlying45
  cases hs : seek k ms 0 with
  | none =>
    refine ⟨es.push { key := kv k, val := v, born := clock }, clock + 1, ?_, ?_⟩
    · simp [Instr.mapUpdate, run_underlying hu, MapKept.run_getObj_map hb, checkKey29, findKey29 w k _ ms he, hs, MapKept.run_setObj_map _ hb, ChangeMaps.setBlock]
    · rw [(seek_none k ms 0 hs).1 v]
      simp only [Ents, Array.toList_push, List.map_append, List.map_cons, List.map_nil]
      rw [he]
  | some p =>
    obtain ⟨j, u⟩ := p
    obtain ⟨_, h2, h3, h4, _, _⟩ := seek_some k ms 0 j u hs
    simp only [Nat.sub_zero] at h2 h3 h4
    have hl : es.toList.length = ms.length := by simpa using congrArg List.length he
    have hj : j < es.size := by simp only [Array.length_toList] at hl; omega
    have hk : es[j].key = kv k := by
      have := congrArg (fun l => l[j]?) he
      simp only [List.getElem?_map, h3, Option.map_some, Array.getElem?_toList, Array.getElem?_eq_getElem hj, Option.some.injEq, Prod.mk.injEq] at this
      exact this.1
    refine ⟨es.modify j fun e => { e with key := kv k, val := v }, clock, ?_, ?_⟩
    · simp [Instr.mapUpdate, run_underlying hu, MapKept.run_getObj_map hb, checkKey29, findKey29 w k _ ms he, hs, MapKept.run_setObj_map _ hb, ChangeMaps.setBlock, Array.getElem?_eq_getElem hj, hk, Instr.keyThatStays, sameBits_kv]
    · rw [h4]
      unfold Ents at *
      rw [Array.toList_modify]
      rw [List.map_set, ← he]
      apply List.ext_getElem?
      intro i
      simp only [List.getElem?_map, List.getElem?_modify, List.getElem?_set, List.length_map]
      by_cases hi : j = i
      · subst hi
        simp [hj]
      · simp [hi]

theorem delete45 (w : World) (ty : TypeId) (m : Nat) (k : Mo.Ky) (es : Array MapEntry) (clock : Nat) (ms : List (Mo.Ky × Value)) (hb : w.heap[m]? = some (.map es clock)) (he : Ents es ms) :
    ∃ es', (Builtin.delete_ #[45, 29] ty #[.map (some m), kv k]).run Try.prog w = .ok (.tuple #[]) (ChangeMaps.setBlock w m (.map es' clock)) ∧ Ents es' (del k ms) := by
  have hu := Try.underlying45
  cases hs : seek k ms 0 with
  | none =>
    refine ⟨es, ?_, ?_⟩
    · simp [Builtin.delete_, run_underlying hu, MapKept.run_getObj_map hb, checkKey29, findKey29 w k _ ms he, hs, MapKept.run_setObj_map _ hb, ChangeMaps.setBlock]
    · rw [(seek_none k ms 0 hs).2.1]; exact he
  | some p =>
    obtain ⟨j, u⟩ := p
    obtain ⟨_, h2, h3, _, h5, _⟩ := seek_some k ms 0 j u hs
    simp only [Nat.sub_zero] at h2 h3 h5
    refine ⟨es.eraseIdxIfInBounds j, ?_, ?_⟩
    · simp [Builtin.delete_, run_underlying hu, MapKept.run_getObj_map hb, checkKey29, findKey29 w k _ ms he, hs, MapKept.run_setObj_map _ hb, ChangeMaps.setBlock]
    · rw [h5]
      unfold Ents at *
      rw [Array.toList_eraseIdxIfInBounds, ChangeMaps.map_eraseIdx, he, ChangeMaps.map_eraseIdx]

end Go.Proofs.Ytpdjfcnlbaaogaa
