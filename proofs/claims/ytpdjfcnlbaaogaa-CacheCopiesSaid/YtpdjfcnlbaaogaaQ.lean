/- The reference's take: one key and its image out of the two rows. -/
import Derived.Test.YtpdjfcnlbaaogaaO
namespace Go.Proofs.Ytpdjfcnlbaaogaa
open Go.RowKit

theorem step_appK {P : Program} {ops : Array Oper} {o : Oper} {a : Act} {W : World} {K : Act → World → Prop} {Q : Exit → Act → World → Prop} {E : Prop} (hgd : o.guard = none) (s x : Operand) (t : TypeId)
    (ho : o.op = .call { callee := .builtin .append, args := #[s, x], argTypes := #[t, t] }) (e size bytes : Nat) (i0 : TypeInfo) (z : Value) (ht : P.underlying t = some (.slice e)) (hi : P.info? e = some i0) (hz : i0.zero = some z) (h1 : i0.size = size) (h2 : i0.bytes = bytes) (hzs : z.cells.size = size) (hsz : 0 < size) (hby : bytes ≤ 40)
    (base : Nat) (v : Value) (n : Nat) (xs : List Value) (hs : a.eval s = v) (ad : Addr) (news : List Value) (hx : a.eval x = .slice (some ad) 1 1) (hown : W.ownsRow base e size v n xs) (hl : news.length = size) (hnews : ∀ j u, news[j]? = some u → W.cell? (ad.add j) = some u) (hone : ∀ u ∈ news, u.oneCell' = true) (hn : n ≤ 100000) (hbase : base ≤ W.heap.size)
    (h : ∀ g cap w', w'.ownsRow base e size (.slice (some ⟨g, 0, none⟩) (n + 1) cap) (n + 1) (xs ++ news) → W.grownBy w' v.ownBlock → (v.ownBlock = some g ∨ W.heap.size ≤ g) → K (a.put o.dst (.slice (some ⟨g, 0, none⟩) (n + 1) cap)) w') :
    if Region.wanted o (yielded ops a.tmps) = true then Oper.wp P o a W K Q else E :=
  step_append_lies W hgd s x t ho base e i0 z size bytes ht hi hz h1 h2 hzs hsz v n xs hs hown ad 1 1 news hx (by omega) hnews hone (by omega) (by simp [maxLen]; omega) (Nat.le_trans (Nat.mul_le_mul_left (n + 1) hby) (by omega)) hbase _ rfl
    fun g cap w' hg1 hg2 hg3 _ => h g cap w' hg1 hg2 (hg3.imp id fun h => Nat.le_of_eq h.symm)

set_option maxHeartbeats 4000000 in
theorem take_any {w : World} {B p : Nat} (b0 b1 vk vi b4 : Value) (ks : List Mo.Ky) (vs : List Value) (i : Nat) (hp : w.heap[p]? = some (.cells #[b0, b1, vk, vi, b4] 50 (0, 0))) (hk : w.ownsRow B 29 5 vk ks.length (flatK ks)) (hv : w.ownsRow B 32 3 vi vs.length (flatI vs)) (hf : ∀ v ∈ vs, Im3 v) (hl : ks.length = vs.length) (hn : ks.length ≤ 4096) (hi : i < ks.length) :
    Calls Try.prog 42 #[.pointer (some ⟨p, 0, none⟩), .int .i64 i] w fun e w' => e = .returned (.tuple #[]) ∧ ∃ vk' vi', w'.heap[p]? = some (.cells #[b0, b1, vk', vi', b4] 50 (0, 0)) ∧ w'.ownsRow w.heap.size 29 5 vk' (ks.eraseIdx i).length (flatK (ks.eraseIdx i)) ∧ w'.ownsRow w.heap.size 32 3 vi' (vs.eraseIdx i).length (flatI (vs.eraseIdx i)) ∧ Fr w w' (foot p []) := by
  have hlt := (Array.getElem?_eq_some_iff.1 hp).1
  obtain ⟨A1, c1, rfl⟩ := own_slice hk
  obtain ⟨A2, c2, rfl⟩ := own_slice hv
  obtain ⟨gk, rfl⟩ : ∃ g, A1 = some ⟨g, 0, none⟩ := by
    rcases hk.2 with ⟨h, h1⟩ | ⟨g, cap, cur, he, _⟩
    · omega
    · simp at he; exact ⟨g, he.1⟩
  obtain ⟨gi, rfl⟩ : ∃ g, A2 = some ⟨g, 0, none⟩ := by
    rcases hv.2 with ⟨h, h1⟩ | ⟨g, cap, cur, he, _⟩
    · omega
    · simp at he; exact ⟨g, he.1⟩
  have hgk := hk.lt gk rfl
  have hgi := hv.lt gi rfl
  obtain ⟨c0, c1', c2', c3', c4', f0, f1, f2, f3, f4⟩ := blk5 hp
  have Hp := Lib.hid hp
  have Hk := Lib.hid hk
  have Hv := Lib.hid hv
  have Hl := Lib.hid hl
  obtain ⟨i0, hi0, hz0, hz1, hz2⟩ := info_parts info29
  obtain ⟨j0, hj0, hy0, hy1, hy2⟩ := info_parts info32
  clear hp hk hv hl c0 c1' c2' c3' c4' f0 f1 f2 f3 f4
  go_enter Try.func42, Try.ntmps42
  go_wp2_with fail
  obtain ⟨W, hW⟩ : ∃ W, W = (w.alloc (.cells #[] 29)).alloc (.cells #[] 32) := ⟨_, rfl⟩
  rw [← hW]
  have hbW : Below w.heap.size w W := by rw [hW]; exact (Below.alloc (Below.refl _ _) (Nat.le_refl _) _).alloc (by simp) _
  have hkW : W.ownsRow w.heap.size 29 5 (.slice (some ⟨w.heap.size, 0, none⟩) 0 0) 0 (flatK ((ks.take 0).eraseIdx i)) := by
    rw [hW]; simpa [flatK] using (World.ownsRow_made (base := w.heap.size) (e := 29) (size := 5) w #[] 0 (Nat.le_refl _) (by simp [maxLen]) (by simp)).alloc (.cells #[] 32)
  have hiW : W.ownsRow w.heap.size 32 3 (.slice (some ⟨w.heap.size + 1, 0, none⟩) 0 0) 0 (flatI ((vs.take 0).eraseIdx i)) := by
    rw [hW]; simpa [flatI] using (World.ownsRow_made (base := w.heap.size) (e := 32) (size := 3) (w.alloc (.cells #[] 29)) #[] 0 (by simp) (by simp [maxLen]) (by simp))
  have HbW := Lib.hid hbW
  have HkW := Lib.hid hkW
  have HiW := Lib.hid hiW
  have hsW := hbW.size
  clear hW hbW hkW hiW
  go_loopw [4, 5, 6] (fun v4 v5 v6 wr => ∃ (j : Nat), j ≤ ks.length ∧ v6 = .int .i64 j ∧ wr.ownsRow w.heap.size 29 5 v4 ((ks.take j).eraseIdx i).length (flatK ((ks.take j).eraseIdx i)) ∧ wr.ownsRow w.heap.size 32 3 v5 ((vs.take j).eraseIdx i).length (flatI ((vs.take j).eraseIdx i)) ∧ Below w.heap.size w wr) (fun _ _ v6 _ => ks.length - (intOf v6).toNat)
  case atStart => exact ⟨0, Nat.zero_le _, rfl, by simpa using HkW.out, by simpa using HiW.out, HbW.out⟩
  case round =>
    obtain ⟨j, hj, rfl, hko, hio, hb⟩ := hrel
    have hp := blk_in hb Hp.out
    obtain ⟨p0, p1, p2, p3, p4, z0, z1, z2, z3, z4⟩ := blk5 hp
    have hsz := hb.size
    have Hko := Lib.hid hko
    have Hio := Lib.hid hio
    have Hb := Lib.hid hb
    clear hp hko hio hb
    by_cases hlt : j < ks.length
    · have hlv : j < vs.length := by have := Hl.out; omega
      have Hlv := Lib.hid hlv
      have ek := eraseIdx_take ks i j hlt
      have ei := eraseIdx_take vs i j hlv
      have Ek := Lib.hid ek
      have Ei := Lib.hid ei
      clear ek ei
      by_cases hji : j = i
      · have hne : ((j : Int) != (i : Int)) = false := by simp [hji]
        have Hji := Lib.hid hji
        clear hji
        go_wp2
        go_roundw
        case rel => exact ⟨j + 1, by omega, by go_num, by rw [Ek.out, if_pos Hji.out]; exact Hko.out, by rw [Ei.out, if_pos Hji.out]; exact Hio.out, Hb.out⟩
        case measure => simp [intOf]; exact Nat.sub_lt_sub_left hlt (Nat.lt_succ_self _)
      · have hne : ((j : Int) != (i : Int)) = true := by simp; omega
        have Hji := Lib.hid hji
        clear hji
        obtain ⟨q0, q1, q2, q3, q4⟩ := own_key (own_below Hk.out Hb.out) j hlt
        obtain ⟨⟨x, y, A, n, c, hform⟩⟩ := hf _ (List.getElem_mem hlv)
        obtain ⟨r0, r1, r2⟩ := own_im (own_below Hv.out Hb.out) hf j hlv x y A n c hform
        have hjv : (j : Int) < (vs.length : Int) := by have := hlv; omega
        have Hform := Lib.hid hform
        clear hform
        go_wp2_with fail
        have hnk : ((ks.take j).eraseIdx i).length ≤ 4096 := Nat.le_trans (List.length_eraseIdx_le _ _) (Nat.le_trans (List.length_take_le _ _) (by omega))
        have hni : ((vs.take j).eraseIdx i).length ≤ 4096 := Nat.le_trans (List.length_eraseIdx_le _ _) (Nat.le_trans (List.length_take_le _ _) (by omega))
        have hok : ∀ b, u4.ownBlock = some b → w.heap.size ≤ b ∧ b < wr.heap.size := Hko.out.lt
        have hoi : ∀ b, u5.ownBlock = some b → w.heap.size ≤ b ∧ b < wr.heap.size := Hio.out.lt
        have Hok := Lib.hid hok
        have Hoi := Lib.hid hoi
        clear hok hoi
        have hne45 : u5.ownBlock = none ∨ u5.ownBlock ≠ u4.ownBlock := by
          cases h5 : u5.ownBlock with
          | none => exact .inl rfl
          | some b =>
            right
            intro h4
            obtain ⟨cs, hc⟩ := own_typed Hio.out b h5
            obtain ⟨cs', hc'⟩ := own_typed Hko.out b h4.symm
            rw [hc] at hc'; simp at hc'
        have Hne45 := Lib.hid hne45
        clear hne45
        go_region_held3 (fun w' => w'.cell? ⟨p, 2, none⟩ = some (.slice (some ⟨gk, 0, none⟩) ks.length c1) ∧ w'.cell? ⟨p, 3, none⟩ = some (.slice (some ⟨gi, 0, none⟩) vs.length c2) ∧ w'.cell? ⟨gk, j * 5, none⟩ = some (.int .i64 ks[j].node) ∧ w'.cell? ⟨gk, j * 5 + 1, none⟩ = some (.int .i64 ks[j].stamp) ∧ w'.cell? ⟨gk, j * 5 + 2, none⟩ = some (.int .i64 ks[j].level) ∧ w'.cell? ⟨gk, j * 5 + 3, none⟩ = some (.int .i64 ks[j].x) ∧ w'.cell? ⟨gk, j * 5 + 4, none⟩ = some (.int .i64 ks[j].y) ∧ w'.cell? ⟨gi, j * 3, none⟩ = some (.int .i64 x) ∧ w'.cell? ⟨gi, j * 3 + 1, none⟩ = some (.int .i64 y) ∧ w'.cell? ⟨gi, j * 3 + 2, none⟩ = some (.slice A n c))
          (first
            | go_keep
            | exact Hs1.out
            | exact Hs2.out)
          (first
            | (refine step_appK (by rfl) (.tmp 21) (.tmp 29) 36 (by rfl) 29 5 40 i0 _ Try.underlying36 hi0 hz0 hz1 hz2 rfl (by omega) (by omega) w.heap.size u4 ((ks.take j).eraseIdx i).length (flatK ((ks.take j).eraseIdx i)) (by rfl) _ (kcells ks[j]) (by rfl) (own_below Hko.out (by repeat (first | exact Below.refl _ _ | refine Below.drew ?_ | refine Below.alloc ?_ (by first | (simp; done) | (simp; omega)) _))) (by rfl) (by first | exact World.news_of_block (cs := (kcells ks[j]).toArray) (blk_at _ _ _ (by simp)) | exact World.news_of_block (cs := (kcells ks[j]).toArray) (blk_alloc _ (blk_at _ _ _ (by simp)))) (by simp [Value.oneCell', kcells]) (by omega) (by simp; omega) ?_
               intro gk1 cap1 w1 hown1 hgrow1 hat1
               have hsz1 := hgrow1.size
               simp only [World.size_alloc, World.size_drew] at hsz1
               have hgr1 : ∀ a u, wr.cell? a = some u → a.block < w.heap.size → w1.cell? a = some u := fun a u h hb => hgrow1.cell ((Below.cell (B := wr.heap.size) (by repeat (first | exact Below.refl _ _ | refine Below.drew ?_ | refine Below.alloc ?_ (by first | (simp; done) | (simp; omega)) _)) (World.block_lt_of_cell? wr a h)).trans h) (fun e => by have := (Hok.out _ e.symm).1; omega)
               have Hs1 := Lib.hid (⟨hgr1 _ _ p2 (by simp; omega), hgr1 _ _ p3 (by simp; omega), hgr1 _ _ q0 (by simp; omega), hgr1 _ _ q1 (by simp; omega), hgr1 _ _ q2 (by simp; omega), hgr1 _ _ q3 (by simp; omega), hgr1 _ _ q4 (by simp; omega), hgr1 _ _ r0 (by simp; omega), hgr1 _ _ r1 (by simp; omega), hgr1 _ _ r2 (by simp; omega)⟩ : w1.cell? ⟨p, 2, none⟩ = some (.slice (some ⟨gk, 0, none⟩) ks.length c1) ∧ w1.cell? ⟨p, 3, none⟩ = some (.slice (some ⟨gi, 0, none⟩) vs.length c2) ∧ w1.cell? ⟨gk, j * 5, none⟩ = some (.int .i64 ks[j].node) ∧ w1.cell? ⟨gk, j * 5 + 1, none⟩ = some (.int .i64 ks[j].stamp) ∧ w1.cell? ⟨gk, j * 5 + 2, none⟩ = some (.int .i64 ks[j].level) ∧ w1.cell? ⟨gk, j * 5 + 3, none⟩ = some (.int .i64 ks[j].x) ∧ w1.cell? ⟨gk, j * 5 + 4, none⟩ = some (.int .i64 ks[j].y) ∧ w1.cell? ⟨gi, j * 3, none⟩ = some (.int .i64 x) ∧ w1.cell? ⟨gi, j * 3 + 1, none⟩ = some (.int .i64 y) ∧ w1.cell? ⟨gi, j * 3 + 2, none⟩ = some (.slice A n c))
               have Hio1 := Lib.hid ((own_below Hio.out (by repeat (first | exact Below.refl _ _ | refine Below.drew ?_ | refine Below.alloc ?_ (by first | (simp; done) | (simp; omega)) _))).kept hgrow1 Hne45.out)
               have Hg1 := Lib.hid hgrow1
               have Hown1 := Lib.hid hown1
               have Hb1 := Lib.hid (Below.grown (B := w.heap.size) (Below.trans Hb.out (Below.mono (B := wr.heap.size) (by repeat (first | exact Below.refl _ _ | refine Below.drew ?_ | refine Below.alloc ?_ (by first | (simp; done) | (simp; omega)) _)) (by omega))) hgrow1 (by simp; omega) (fun b hb => (Hok.out b hb).1))
               clear hgr1 hgrow1 hown1)
            | (refine step_appK (by rfl) (.tmp 31) (.tmp 39) 48 (by rfl) 32 3 40 j0 _ Try.underlying48 hj0 hy0 hy1 hy2 rfl (by omega) (by omega) w.heap.size u5 ((vs.take j).eraseIdx i).length (flatI ((vs.take j).eraseIdx i)) (by rfl) _ [.int .i64 x, .int .i64 y, .slice A n c] (by rfl) (own_below Hio1.out (by repeat (first | exact Below.refl _ _ | refine Below.drew ?_ | refine Below.alloc ?_ (by first | (simp; done) | (simp; omega)) _))) (by rfl) (by first | exact World.news_of_block (cs := #[.int .i64 x, .int .i64 y, .slice A n c]) (blk_at _ _ _ (by simp)) | exact World.news_of_block (cs := #[.int .i64 x, .int .i64 y, .slice A n c]) ((Hg1.out.block _ (by simp only [World.size_alloc, World.size_drew]; omega) (fun e => by have := (Hok.out _ e.symm).2; omega)).trans (blk_at _ _ _ (by simp))) | exact World.news_of_block (cs := #[.int .i64 x, .int .i64 y, .slice A n c]) ((Hg1.out.block _ (by simp only [World.size_alloc, World.size_drew]; omega) (fun e => by have := (Hok.out _ e.symm).2; omega)).trans (blk_alloc _ (blk_at _ _ _ (by simp))))) (by simp [Value.oneCell']) (by omega) (by first | omega | (simp; omega)) ?_
               intro gi2 cap2 w2 hown2 hgrow2 hat2
               have hsz2 := hgrow2.size
               (try simp only [World.size_alloc] at hsz2)
               have hgr2 : ∀ a u, w1.cell? a = some u → a.block < w.heap.size → w2.cell? a = some u := fun a u h hb => hgrow2.cell ((Below.cell (B := w1.heap.size) (by repeat (first | exact Below.refl _ _ | refine Below.drew ?_ | refine Below.alloc ?_ (by first | (simp; done) | (simp; omega)) _)) (World.block_lt_of_cell? w1 a h)).trans h) (fun e => by have := (Hoi.out _ e.symm).1; omega)
               have Hs2 := Lib.hid (⟨hgr2 _ _ Hs1.out.1 (by first | omega | (simp; omega)), hgr2 _ _ Hs1.out.2.1 (by first | omega | (simp; omega)), hgr2 _ _ Hs1.out.2.2.1 (by first | omega | (simp; omega)), hgr2 _ _ Hs1.out.2.2.2.1 (by first | omega | (simp; omega)), hgr2 _ _ Hs1.out.2.2.2.2.1 (by first | omega | (simp; omega)), hgr2 _ _ Hs1.out.2.2.2.2.2.1 (by first | omega | (simp; omega)), hgr2 _ _ Hs1.out.2.2.2.2.2.2.1 (by first | omega | (simp; omega)), hgr2 _ _ Hs1.out.2.2.2.2.2.2.2.1 (by first | omega | (simp; omega)), hgr2 _ _ Hs1.out.2.2.2.2.2.2.2.2.1 (by first | omega | (simp; omega)), hgr2 _ _ Hs1.out.2.2.2.2.2.2.2.2.2 (by first | omega | (simp; omega))⟩ : w2.cell? ⟨p, 2, none⟩ = some (.slice (some ⟨gk, 0, none⟩) ks.length c1) ∧ w2.cell? ⟨p, 3, none⟩ = some (.slice (some ⟨gi, 0, none⟩) vs.length c2) ∧ w2.cell? ⟨gk, j * 5, none⟩ = some (.int .i64 ks[j].node) ∧ w2.cell? ⟨gk, j * 5 + 1, none⟩ = some (.int .i64 ks[j].stamp) ∧ w2.cell? ⟨gk, j * 5 + 2, none⟩ = some (.int .i64 ks[j].level) ∧ w2.cell? ⟨gk, j * 5 + 3, none⟩ = some (.int .i64 ks[j].x) ∧ w2.cell? ⟨gk, j * 5 + 4, none⟩ = some (.int .i64 ks[j].y) ∧ w2.cell? ⟨gi, j * 3, none⟩ = some (.int .i64 x) ∧ w2.cell? ⟨gi, j * 3 + 1, none⟩ = some (.int .i64 y) ∧ w2.cell? ⟨gi, j * 3 + 2, none⟩ = some (.slice A n c))
               have hne2 : (Value.slice (some ⟨gk1, 0, none⟩) (((ks.take j).eraseIdx i).length + 1) cap1).ownBlock ≠ u5.ownBlock := by
                 intro h
                 obtain ⟨cs, hc⟩ := own_typed Hown1.out gk1 rfl
                 obtain ⟨cs', hc'⟩ := own_typed Hio1.out gk1 h.symm
                 rw [hc] at hc'; simp at hc'
               have Hk2 := Lib.hid ((own_below Hown1.out (by repeat (first | exact Below.refl _ _ | refine Below.drew ?_ | refine Below.alloc ?_ (by first | (simp; done) | (simp; omega)) _))).kept hgrow2 (.inr hne2))
               have Hown2 := Lib.hid hown2
               have Hb2 := Lib.hid (Below.grown (B := w.heap.size) (Below.trans Hb1.out (Below.mono (B := w1.heap.size) (by repeat (first | exact Below.refl _ _ | refine Below.drew ?_ | refine Below.alloc ?_ (by first | (simp; done) | (simp; omega)) _)) (by omega))) hgrow2 (by first | omega | (simp; omega)) (fun b hb => (Hoi.out b hb).1))
               clear hgr2 hgrow2 hown2 hne2))
        all_goals
          go_wp2
          go_roundw
          case rel =>
            refine ⟨j + 1, by omega, by go_num, ?_, ?_, Hb2.out⟩
            · rw [Ek.out, if_neg Hji.out, flatK_append, List.length_append]; simpa [flatK] using Hk2.out
            · rw [Ei.out, if_neg Hji.out, flatI_append, List.length_append, Hform.out]; simpa [flatI, icells, Value.cells] using Hown2.out
          case measure => simp [intOf]; exact Nat.sub_lt_sub_left hlt (Nat.lt_succ_self _)
    · have hjl : j = ks.length := by omega
      have hjv : j = vs.length := by rw [hjl]; exact Hl.out
      obtain ⟨A3, c3, rfl⟩ := own_slice Hko.out
      obtain ⟨A4, c4, rfl⟩ := own_slice Hio.out
      have HjL := Lib.hid hjl
      have HjV := Lib.hid hjv
      clear hjl hjv
      go_wp2
      go_end0
      have hk1 := Hko.out
      have hi1 := Hio.out
      have ek : ks.take j = ks := by rw [HjL.out, List.take_length]
      have ev : vs.take j = vs := by rw [HjV.out, List.take_length]
      have hp := blk_in Hb.out Hp.out
      have hn1 : (Value.slice A3 ((ks.take j).eraseIdx i).length c3).ownBlock ≠ some p := fun h => by have := (hk1.lt _ h).1; omega
      have hn2 : (Value.slice A4 ((vs.take j).eraseIdx i).length c4).ownBlock ≠ some p := fun h => by have := (hi1.lt _ h).1; omega
      refine ⟨rfl, _, _, blk_set (blk_set hp 2 _) 3 _, own_set (own_set ?_ hn1 _) hn1 _, own_set (own_set ?_ hn2 _) hn2 _, Fr.setCell (Fr.setCell (Fr.below Hb.out _) (.inl (.inl rfl)) _) (.inl (.inl rfl)) _⟩
      · rw [ek] at hk1 ⊢; exact hk1
      · rw [ev] at hi1 ⊢; exact hi1
end Go.Proofs.Ytpdjfcnlbaaogaa
