/- (c *Cache).Drop. -/
import Derived.Test.YtpdjfcnlbaaogaaK
namespace Go.Proofs.Ytpdjfcnlbaaogaa
open Go.RowKit

def dropTo (nd : Int) (ks : List Mo.Ky) (s : Mo.Ca) : Mo.Ca := { s with l := s.l.filter (fun p => !(p.1.node == nd && ks.contains p.1)) }
def cnt (nd : Int) (ks : List Mo.Ky) : Nat := (ks.filter (fun k => k.node == nd)).length

theorem dropTo_nil (nd : Int) (s : Mo.Ca) : dropTo nd [] s = s := by
  have : s.l.filter (fun p => !(p.1.node == nd && ([] : List Mo.Ky).contains p.1)) = s.l := List.filter_eq_self.2 fun p _ => by simp
  simp only [dropTo, this]
theorem dropTo_no (nd : Int) (ks : List Mo.Ky) (k : Mo.Ky) (s : Mo.Ca) (h : ¬ k.node = nd) : dropTo nd (ks ++ [k]) s = dropTo nd ks s := by
  have : s.l.filter (fun p => !(p.1.node == nd && (ks ++ [k]).contains p.1)) = s.l.filter (fun p => !(p.1.node == nd && ks.contains p.1)) := by
    refine List.filter_congr fun p _ => ?_
    by_cases hp : p.1 = k
    · simp [hp, h]
    · simp [hp]
  simp only [dropTo, this]
theorem dropTo_yes (nd : Int) (ks : List Mo.Ky) (k : Mo.Ky) (s : Mo.Ca) (h : k.node = nd) : dropTo nd (ks ++ [k]) s = Mo.remove k (dropTo nd ks s) := by
  have : s.l.filter (fun p => !(p.1.node == nd && (ks ++ [k]).contains p.1)) = (s.l.filter (fun p => !(p.1.node == nd && ks.contains p.1))).filter (fun p => !(p.1 == k)) := by
    rw [List.filter_filter]
    refine List.filter_congr fun p _ => ?_
    by_cases hp : p.1 = k
    · simp [hp, h]
    · simp [hp]
  simp only [dropTo, Mo.remove, Mo.rm, this]
theorem dropTo_all (nd : Int) (s : Mo.Ca) : dropTo nd (Mo.keys s) s = Mo.drop nd s := by
  have : s.l.filter (fun p => !(p.1.node == nd && (Mo.keys s).contains p.1)) = s.l.filter (fun p => !(p.1.node == nd)) := by
    refine List.filter_congr fun p hp => ?_
    have : (Mo.keys s).contains p.1 = true := by
      rw [List.contains_iff_mem]; exact List.mem_map.2 ⟨p, hp, rfl⟩
    rw [this, Bool.and_true]
  simp only [dropTo, Mo.drop, this]
theorem cnt_all (nd : Int) (s : Mo.Ca) : cnt nd (Mo.keys s) = Mo.dropped nd s := by
  unfold cnt Mo.keys Mo.dropped
  rw [List.filter_map, List.length_map]; rfl
theorem cnt_snoc (nd : Int) (ks : List Mo.Ky) (k : Mo.Ky) : cnt nd (ks ++ [k]) = cnt nd ks + if k.node = nd then 1 else 0 := by
  unfold cnt
  rw [List.filter_append, List.length_append]
  congr 1
  by_cases h : k.node = nd <;> simp [h]
theorem cnt_le (nd : Int) (ks : List Mo.Ky) : cnt nd ks ≤ ks.length := List.length_filter_le _ _
theorem look_dropTo (nd : Int) (ks : List Mo.Ky) (k : Mo.Ky) (s : Mo.Ca) (h : k ∉ ks) : Mo.look k (dropTo nd ks s).l = Mo.look k s.l := by
  unfold dropTo
  rw [look_filter (fun x => !(x.node == nd && ks.contains x))]
  have : ks.contains k = false := by simpa using h
  rw [if_pos]
  simp [h]
theorem look_keys (s : Mo.Ca) (j : Nat) (h : j < (Mo.keys s).length) : ∃ i, Mo.look (Mo.keys s)[j] s.l = some i := by
  cases hl : Mo.look (Mo.keys s)[j] s.l with
  | some i => exact ⟨i, rfl⟩
  | none =>
    rw [look_none_iff] at hl
    exact absurd (List.getElem_mem h) hl

set_option maxHeartbeats 400000 in
theorem drop_any {w : World} {B p : Nat} {s : Mo.Ca} {F : Nat → Prop} (h : CAt w B p s F) (nd : Int) : Calls Try.prog 28 #[.pointer (some ⟨p, 0, none⟩), .int .i64 nd] w fun e w' => e = .returned (.int .i64 ((Mo.dropped nd s : Nat) : Int)) ∧ ∃ F', CAt w' B p (Mo.drop nd s) F' ∧ Stp w w' F F' := by
  have hF := h.lt
  have h0 := h
  obtain ⟨hok, hB, m, vo, ms, hr, hFe⟩ := h
  obtain ⟨c0, c1, c2, c3, f0, f1, f2, f3⟩ := blk4 hr.blk
  have ho := hr.ord
  have hl : (Mo.keys s).length = s.l.length := by simp [Mo.keys]
  rw [← hl] at ho
  have hn : (Mo.keys s).length ≤ 4096 := by have := hok.len; have := hok.b1; omega
  clear hr hFe
  have H0 := Lib.hid h0
  have Hl := Lib.hid hl
  clear h0 hl
  go_enter Try.func28, Try.ntmps28
  go_wp2_with (first
    | (go_at_call 34; refine (made_yes p m _ c1).mono ?_; rintro e w1 ⟨rfl, rfl⟩)
    | (go_at_call 35; refine (cloneK_own B vo _ _ _ ho hn).mono ?_; rintro e w1 ⟨v', rfl, ho', hb'⟩; obtain ⟨A', c', rfl⟩ := own_slice ho')
    | fail)
  have hA : 0 < (Mo.keys s).length → ∃ g, A' = some ⟨g, 0, none⟩ := by
    intro hp
    rcases ho'.2 with ⟨h, h1⟩ | ⟨g, cap, cur, he, _⟩
    · omega
    · simp at he; exact ⟨g, he.1⟩
  have h1 : CAt w1 B p s F := H0.out.frame (Fr.below hb' Nof) (fun _ _ h => h) (fun _ h => h.elim)
  have hcl : ∀ b, (Value.slice A' (Mo.keys s).length c').ownBlock = some b → ¬ F b := by
    intro b hb hf
    have := (ho'.lt b hb).1; have := (hF b hf).2; omega
  have H1 := Lib.hid h1
  have HA := Lib.hid hA
  have Hcl := Lib.hid hcl
  have Ho := Lib.hid ho'
  have Hb := Lib.hid hb'
  clear h1 hA hcl ho' hb' c0 c1 c2 c3 f0 f1 f2 f3
  go_loopw [5, 17] (fun v5 v wr => ∃ (j : Nat) (F' : Nat → Prop), j ≤ (Mo.keys s).length ∧ v = .int .i64 j ∧ v5 = .int .i64 (cnt nd ((Mo.keys s).take j) : Nat) ∧ CAt wr B p (dropTo nd ((Mo.keys s).take j) s) F' ∧ Stp w1 wr F F') (fun _ v _ => (Mo.keys s).length - (intOf v).toNat)
  case atStart => exact ⟨0, F, Nat.zero_le _, rfl, by simp [cnt], by simpa [dropTo_nil] using H1.out, Fr.refl _ _, fun b hb => .inl hb⟩
  case round =>
    obtain ⟨j, F', hj, rfl, rfl, hc, hst⟩ := hrel
    have Hc := Lib.hid hc
    have Hst := Lib.hid hst
    clear hc hst
    have hcl := cnt_le nd ((Mo.keys s).take j)
    have hcl2 : ((Mo.keys s).take j).length ≤ j := List.length_take_le _ _
    by_cases hlt : j < (Mo.keys s).length
    · obtain ⟨g, rfl⟩ := HA.out (by omega)
      have hor : wr.ownsRow w.heap.size 29 5 (.slice (some ⟨g, 0, none⟩) (Mo.keys s).length c') (Mo.keys s).length (flatK (Mo.keys s)) := own_frame Ho.out Hst.out.1 Hcl.out
      obtain ⟨k0, k1, k2, k3, k4⟩ := own_key hor j hlt
      have htk := List.take_succ_eq_append_getElem hlt
      have hcs := cnt_snoc nd ((Mo.keys s).take j) (Mo.keys s)[j]
      rw [← htk] at hcs
      have Hcs := Lib.hid hcs
      have Htk := Lib.hid htk
      clear hor htk hcs
      by_cases hnd : (Mo.keys s)[j].node = nd
      · have hnd' : ((Mo.keys s)[j].node == nd) = true := by simpa using hnd
        have hds := dropTo_yes nd ((Mo.keys s).take j) (Mo.keys s)[j] s hnd
        rw [← Htk.out] at hds
        obtain ⟨im, him⟩ := look_keys s j hlt
        have hnm : (Mo.keys s)[j] ∉ (Mo.keys s).take j := by
          have h2 : ((Mo.keys s).take (j + 1)).Nodup := hok.nd.sublist (List.take_sublist _ _)
          rw [Htk.out, List.nodup_append] at h2
          exact fun hm => h2.2.2 _ hm _ (List.mem_singleton.2 rfl) rfl
        have hlk : Mo.look (Mo.keys s)[j] (dropTo nd ((Mo.keys s).take j) s).l = some im := by rw [look_dropTo _ _ _ _ hnm]; exact him
        have hca : ∀ o, CAt (wr.alloc o) B p (dropTo nd ((Mo.keys s).take j) s) F' := fun o => Hc.out.frame (Fr.below (Below.alloc (Below.refl _ _) (Nat.le_refl _) _) Nof) (fun _ _ h => h) (fun _ h => h.elim)
        have Hds := Lib.hid hds
        have Hlk := Lib.hid hlk
        have Hca := Lib.hid hca
        have Hnd := Lib.hid hnd
        clear hds him hlk hca hnd
        go_wp2_with (go_at_call 30; refine (remove_yes (Hca.out _) (Mo.keys s)[j] im Hlk.out).mono ?_; rintro e w3 ⟨rfl, F3, hc3, hs3⟩)
        go_roundw
        case rel => exact ⟨j + 1, F3, by omega, by go_num, by rw [Hcs.out, if_pos Hnd.out]; go_num, by rw [Hds.out]; exact hc3, Stp.trans Hst.out (Stp.trans (F1 := F') ⟨(Fr.refl _ _).alloc _, fun _ h => .inl h⟩ hs3)⟩
        case measure => simp [intOf]; omega
      · have hnd' : ((Mo.keys s)[j].node == nd) = false := by simpa using hnd
        have hds := dropTo_no nd ((Mo.keys s).take j) (Mo.keys s)[j] s hnd
        rw [← Htk.out] at hds
        have Hds := Lib.hid hds
        clear hds
        go_wp2
        go_roundw
        case rel => exact ⟨j + 1, F', by omega, by go_num, by rw [Hcs.out, if_neg hnd]; rfl, by rw [Hds.out]; exact Hc.out.frame (Fr.below (Below.alloc (Below.refl _ _) (Nat.le_refl _) _) Nof) (fun _ _ h => h) (fun _ h => h.elim), Hst.out.1.alloc _, Hst.out.2⟩
        case measure => simp [intOf]; omega
    · have hjN : j = (Mo.keys s).length := by omega
      go_wp2
      go_ret
      have h1 := Hc.out
      rw [hjN, List.take_length, dropTo_all] at h1
      refine ⟨by rw [hjN, List.take_length, cnt_all]; rfl, F', h1, ?_⟩
      exact Stp.trans (F1 := F) ⟨Fr.below Hb.out _, fun _ h => .inl h⟩ Hst.out
end Go.Proofs.Ytpdjfcnlbaaogaa
