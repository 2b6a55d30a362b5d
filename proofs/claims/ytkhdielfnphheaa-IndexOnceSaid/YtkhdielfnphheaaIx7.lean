/- Contract of the compaction of entries of one name. -/
import Derived.Test.YtkhdielfnphheaaIx6
import Derived.Laws.IdiomCopy
namespace Go.Proofs.Ytkhdielfnphheaa
open Go.RowKit

theorem clear_ent (w : World) (A o n c : Nat) (ty : TypeId) (hn : 0 < n) (hc : ∀ j, j < n * 2 → (w.cell? ⟨A, o + j, none⟩).isSome = true) (hf : ∀ j, w.frozen? ⟨A, j, none⟩ = false) :
    (Builtin.clear_ #[88] ty #[.slice (some ⟨A, o, none⟩) n c]).run Try.prog w = .ok (.tuple #[]) (w.setCells A o (List.replicate (n * 2) (.int .i64 0))) := by
  have ht : Try.prog.underlying 88 = some (.slice 117) := by kernel_rfl
  have hv : ∀ w, (zeroValue 117).run Try.prog w = .ok (.agg #[.int .i64 0, .int .i64 0]) w := fun w => by kernel_rfl
  have hz : (Value.agg #[.int .i64 0, .int .i64 0]).cells = #[.int .i64 0, .int .i64 0] := by rfl
  have hzc : (Builtin.zeroCells (Value.agg #[.int .i64 0, .int .i64 0]).cells n).toList = List.replicate (n * 2) (.int .i64 0) := by
    rw [hz]
    simp [Builtin.zeroCells]
    apply List.ext_getElem
    · simp
      try omega
    · intro i h1 h2
      have : i % 2 = 0 ∨ i % 2 = 1 := by omega
      rcases this with e | e <;> simp [e]
  have hst := run_storeCells_cells (P := Try.prog) A o (List.replicate (n * 2) (.int .i64 0)) 0 w (by simpa using hc) (fun j _ => hf _) (by intro v hv'; rw [List.eq_of_mem_replicate hv']; rfl)
  simp only [Nat.add_zero] at hst
  obtain ⟨m, rfl⟩ : ∃ m, n = m + 1 := ⟨n - 1, by omega⟩
  simp [Builtin.clear_, run_underlying ht, hv, hzc, hst]
theorem FrmA.sets {w0 : World} {A : Nat} (vs : List Value) : ∀ (o : Nat) {w : World}, FrmA w0 w A → FrmA w0 (w.setCells A o vs) A := by
  induction vs with
  | nil => intro o w h; exact h
  | cons v r ih => intro o w h; exact ih (o + 1) h.set
theorem EntB.sets {w : World} {A N n : Nat} {E : Nat → Ent} (h : EntB w A N E) (hn : n ≤ N) (o : Nat) (ho : n * 2 ≤ o) (vs : List Value) : EntB (w.setCells A o vs) A n E := by
  refine ⟨?_, fun k => by rw [World.frozen?_setCells]; exact h.2.1 k, fun j hj => ?_⟩
  · exact Nat.lt_of_lt_of_le h.1 (FrmA.sets (w0 := w) vs o (FrmA.refl _ _)).size
  · rw [World.cell?_setCells_out A vs o w _ (fun _ _ => Or.inl (by simp only; omega)), World.cell?_setCells_out A vs o w _ (fun _ _ => Or.inl (by simp only; omega))]
    exact h.2.2 j (by omega)
/-- the compacted part so far: entries below i are read, K of them are kept -/
structure Cmp (E F : Nat → Ent) (i K : Nat) : Prop where
  len : (keptL E i).length = K
  low : ∀ j, j < K → F j = (keptL E i).getD j (0, 0)
  high : ∀ j, i ≤ j + 1 → F j = E j
  less : K + 1 ≤ i
theorem kept_same {E : Nat → Ent} {k : Nat} (h : ∀ j, j < k → kp E j) : (keptL E k).length = k ∧ ∀ j, j < k → (keptL E k).getD j (0, 0) = E j := by
  induction k with
  | zero => exact ⟨rfl, fun j hj => by omega⟩
  | succ k ih =>
    obtain ⟨i1, i2⟩ := ih (fun j hj => h j (by omega))
    unfold keptL
    rw [if_pos (h k (by omega))]
    refine ⟨by simp [i1], fun j hj => ?_⟩
    by_cases e : j = k
    · subst e
      simp [List.getD_eq_getElem?_getD, i1]
    · rw [← i2 j (by omega)]
      simp [List.getD_eq_getElem?_getD, List.getElem?_append_left (show j < (keptL E k).length by omega)]
theorem Cmp.start {E : Nat → Ent} {k : Nat} (h : ∀ j, j < k → kp E j) (hk : ¬ kp E k) : Cmp E E (k + 1) k := by
  obtain ⟨h1, h2⟩ := kept_same h
  have e : keptL E (k + 1) = keptL E k := by
    conv => lhs; unfold keptL
    rw [if_neg hk, List.append_nil]
  exact ⟨by rw [e]; exact h1, fun j hj => by rw [e]; exact (h2 j hj).symm, fun _ _ => rfl, Nat.le_refl _⟩
theorem Cmp.skip {E F : Nat → Ent} {i K : Nat} (h : Cmp E F i K) (hk : ¬ kp E i) : Cmp E F (i + 1) K := by
  have e : keptL E (i + 1) = keptL E i := by
    conv => lhs; unfold keptL
    rw [if_neg hk, List.append_nil]
  exact ⟨by rw [e]; exact h.len, fun j hj => by rw [e]; exact h.low j hj, fun j hj => h.high j (by omega), by have := h.less; omega⟩
theorem Cmp.keep {E F : Nat → Ent} {i K : Nat} (h : Cmp E F i K) (hk : kp E i) : Cmp E (fun j => if j = K then E i else F j) (i + 1) (K + 1) := by
  have hl := h.less
  have e : keptL E (i + 1) = keptL E i ++ [E i] := by
    conv => lhs; unfold keptL
    rw [if_pos hk]
  refine ⟨by rw [e]; simp [h.len], fun j hj => ?_, fun j hj => ?_, by omega⟩
  · by_cases c : j = K
    · subst c
      rw [if_pos rfl, e]
      simp [List.getD_eq_getElem?_getD, ← h.len]
    · rw [if_neg c, h.low j (by omega), e]
      simp [List.getD_eq_getElem?_getD, List.getElem?_append_left (show j < (keptL E i).length by have := h.len; omega)]
  · rw [if_neg (by omega)]
    exact h.high j (by omega)
/-- two pairs of cells -/
def D4 (W : World) (A p q : Nat) (x0 y0 x1 y1 : Int) : Prop := W.cell? ⟨A, p, none⟩ = some (.int .i64 x0) ∧ W.cell? ⟨A, p + 1, none⟩ = some (.int .i64 y0) ∧ W.cell? ⟨A, q, none⟩ = some (.int .i64 x1) ∧ W.cell? ⟨A, q + 1, none⟩ = some (.int .i64 y1)
theorem D4.cells {W : World} {A i j : Nat} {x0 y0 x1 y1 : Int} (h : D4 W A i j x0 y0 x1 y1) : W.cell? ⟨A, i, none⟩ = some (.int .i64 x0) ∧ W.cell? ⟨A, i + 1, none⟩ = some (.int .i64 y0) ∧ W.cell? ⟨A, j, none⟩ = some (.int .i64 x1) ∧ W.cell? ⟨A, j + 1, none⟩ = some (.int .i64 y1) := h
theorem D4.drew {W : World} {A i j : Nat} {x0 y0 x1 y1 : Int} (h : D4 W A i j x0 y0 x1 y1) : D4 W.drew A i j x0 y0 x1 y1 := h
theorem D4.later {W W1 : World} {A i j : Nat} {x0 y0 x1 y1 : Int} (h : D4 W A i j x0 y0 x1 y1) (hb : Below W.heap.size W W1) : D4 W1 A i j x0 y0 x1 y1 :=
  ⟨cell_later hb h.1, cell_later hb h.2.1, cell_later hb h.2.2.1, cell_later hb h.2.2.2⟩
def CmpPost (A N cap : Nat) (E : Nat → Ent) (w : World) (e : Ending) (w' : World) : Prop := e = .returned (.slice (some ⟨A, 0, none⟩) (keptL E N).length cap) ∧ FrmA w w' A ∧ EntB w' A (keptL E N).length (fun j => (keptL E N).getD j (0, 0))
theorem EntB.congr {w : World} {A n : Nat} {E F : Nat → Ent} (h : EntB w A n E) (e : ∀ j, j < n → F j = E j) : EntB w A n F :=
  ⟨h.1, h.2.1, fun j hj => by rw [e j hj]; exact h.2.2 j hj⟩
theorem CmpPost.all {A N cap : Nat} {E : Nat → Ent} {w w' : World} (h : ∀ j, j < N → kp E j) (hf : FrmA w w' A) (he : EntB w' A N E) : CmpPost A N cap E w (.returned (.slice (some ⟨A, 0, none⟩) N cap)) w' := by
  obtain ⟨h1, h2⟩ := kept_same h
  refine ⟨by rw [h1], hf, ?_⟩
  rw [h1]
  exact he.congr h2
theorem CmpPost.done {A N cap K : Nat} {E F : Nat → Ent} {w w' : World} (h : Cmp E F N K) (hf : FrmA w w' A) (he : EntB w' A K F) : CmpPost A N cap E w (.returned (.slice (some ⟨A, 0, none⟩) K cap)) w' := by
  refine ⟨by rw [h.len], hf, ?_⟩
  rw [h.len]
  exact he.congr (fun j hj => (h.low j hj).symm)
abbrev eqnV : Value := .func (.func 54) #[] #[]
set_option maxRecDepth 100000 in
set_option maxHeartbeats 6400000 in
theorem compact_any (A N cap : Nat) (E : Nat → Ent) (w : World) (h : EntB w A N E) (hN : N ≤ 4000000000000) (hcap : N ≤ cap) :
    Calls Try.prog 53 #[.slice (some ⟨A, 0, none⟩) N cap, eqnV] w (CmpPost A N cap E w) := by
  have H := Lib.hid h
  clear h
  by_cases n2 : N < 2
  · have nI : (N : Int) < 2 := by omega
    have hall : Hid (∀ j, j < N → kp E j) := Lib.hid (fun j hj => Or.inl (by omega))
    go_enter Try.func53, Try.ntmps53
    go_wp2_with fail
    go_ret
    exact CmpPost.all hall.out (FrmA.refl _ _) H.out
  · have nI : ¬ (N : Int) < 2 := by omega
    go_enter Try.func53, Try.ntmps53
    go_wp2_with fail
    go_loopw [5] (fun x wr => ∃ (k : Nat), x = .int .i64 k ∧ 1 ≤ k ∧ k ≤ N ∧ (∀ j, j < k → kp E j) ∧ EntB wr A N E ∧ FrmA w wr A) (fun x _ => N - (intOf x).toNat)
    case atStart => exact ⟨1, rfl, Nat.le_refl _, by omega, fun j hj => Or.inl (by omega), H.out, FrmA.refl _ _⟩
    case round =>
      obtain ⟨k, rfl, k1, kN, hall, hen, hfr⟩ := hrel
      have FR := Lib.hid hfr
      have EN := Lib.hid hen
      have AL := Lib.hid hall
      clear hfr hall
      by_cases hlt : k < N
      · have kI : (k : Int) < (N : Int) := by omega
        obtain ⟨q, hq⟩ : ∃ q, q = k - 1 := ⟨_, rfl⟩
        have wq : IntKind.i64.wrap ((k : Int) - 1) = (k : Int) - 1 := IntWalk.i64_in _ (by omega)
        have wq1 : (0 : Int) ≤ (k : Int) - 1 := by omega
        have wq2 : (k : Int) - 1 < (N : Int) := by omega
        have wq3 : ((k : Int) - 1).toNat = q := by omega
        have wqa : (1 : Int) ≤ (k : Int) := by omega
        have wqc : (0 : Int) ≤ (k : Int) - 1 ∧ (k : Int) - 1 < (N : Int) := by omega
        have wqd : 0 < k := by omega
        have wqe : (0 : Int) < (k : Int) := by omega
        have hq0 : (0 : Int) ≤ (q : Int) := by omega
        have hqN : q < N := by omega
        have hqI : (q : Int) < (N : Int) := by omega
        have KP : Hid (kp E k ↔ ¬ ((E k).1 == (E q).1) = true) := Lib.hid (by
          unfold kp
          rw [← hq]
          simp
          omega)
        have C0 : C4 wr A k q (E k).1 (E k).2 (E q).1 (E q).2 := hen.two hlt hqN
        have CM := Lib.hid (fun W => eqn_any (E k).1 (E k).2 (E q).1 (E q).2 W)
        obtain ⟨x0, hx0⟩ : ∃ x, x = (E k).1 := ⟨_, rfl⟩
        obtain ⟨y0, hy0⟩ : ∃ x, x = (E k).2 := ⟨_, rfl⟩
        obtain ⟨x1, hx1⟩ : ∃ x, x = (E q).1 := ⟨_, rfl⟩
        obtain ⟨y1, hy1⟩ : ∃ x, x = (E q).2 := ⟨_, rfl⟩
        rw [← hx0, ← hx1] at KP CM C0
        rw [← hy0, ← hy1] at CM C0
        clear hx0 hy0 hx1 hy1 hq hen
        have C0H := Lib.hid C0
        have CC := C0
        have k8 : Below wr.heap.size wr wr := Below.refl _ _
        obtain ⟨cb, hcb⟩ : ∃ c, c = (x0 == x1) := ⟨_, rfl⟩
        rw [← hcb] at CM KP
        clear hcb
        go_wp2_with fail
        go_region_held3 (fun w' => w'.cell? ⟨A, k * 2, none⟩ = some (.int .i64 x0) ∧ w'.cell? ⟨A, k * 2 + 1, none⟩ = some (.int .i64 y0) ∧ w'.cell? ⟨A, q * 2, none⟩ = some (.int .i64 x1) ∧ w'.cell? ⟨A, q * 2 + 1, none⟩ = some (.int .i64 y1))
          (first | with_reducible exact CC.cells | with_reducible exact CC.drew.cells)
          (first
            | (go_at_call 54; (with_reducible refine (CM.out wr.drew).mono ?_); rintro e v1 ⟨rfl, hb⟩; have k8 : Below wr.heap.size wr v1 := bel_drew hb; have CC := C0H.out.later k8))
        all_goals
          have E1 := Lib.hid (EN.out.later k8)
          have F1 := Lib.hid (FR.out.trans (FrmA.of_below k8))
          clear CC C0 C0H CM
          cases cb with
          | true =>
            have nk : Hid (¬ kp E k) := Lib.hid (fun h => KP.out.1 h rfl)
            go_wp2_with fail
            generalize hM : N - k = M
            generalize hC : cap - k = C2
            generalize hO : k * 2 = o
            have HM := Lib.hid hM
            have HO := Lib.hid hO
            have kM : k + M = N := by omega
            have ST := Lib.hid (Cmp.start AL.out nk.out)
            clear hM hC hO KP AL nk EN FR
            as_aux_lemma =>
            go_loopw [5, 7] (fun x y wp => ∃ (K j : Nat) (F : Nat → Ent), x = .int .i64 K ∧ y = .int .i64 j ∧ 1 ≤ j ∧ j ≤ M ∧ Cmp E F (k + j) K ∧ EntB wp A N F ∧ FrmA w wp A) (fun _ y _ => M - (intOf y).toNat)
            case atStart => exact ⟨k, 1, E, rfl, rfl, Nat.le_refl _, by omega, ST.out, E1.out, F1.out⟩
            case round =>
              obtain ⟨K, j, F, rfl, rfl, j1, jM, hcm, hen, hfr⟩ := hrel
              have FR := Lib.hid hfr
              have EN := Lib.hid hen
              have CP := Lib.hid hcm
              have hl := hcm.less
              have hh := hcm.high
              clear hfr hcm
              by_cases hlt2 : j < M
              · have jI : (j : Int) < (M : Int) := by omega
                obtain ⟨q2, hq2⟩ : ∃ q, q = j - 1 := ⟨_, rfl⟩
                have wp : IntKind.i64.wrap ((j : Int) - 1) = (j : Int) - 1 := IntWalk.i64_in _ (by omega)
                have wp1 : (0 : Int) ≤ (j : Int) - 1 := by omega
                have wp2 : (j : Int) - 1 < (M : Int) := by omega
                have wp3 : ((j : Int) - 1).toNat = q2 := by omega
                have wpa : (1 : Int) ≤ (j : Int) := by omega
                have wpc : (0 : Int) ≤ (j : Int) - 1 ∧ (j : Int) - 1 < (M : Int) := by omega
                have wpd : 0 < j := by omega
                have wpe : (0 : Int) < (j : Int) := by omega
                have hp0 : (0 : Int) ≤ (q2 : Int) := by omega
                have hpM : q2 < M := by omega
                have hpI : (q2 : Int) < (M : Int) := by omega
                have KP2 : Hid (kp E (k + j) ↔ (!((E (k + j)).1 == (E (k + q2)).1)) = true) := Lib.hid (by
                  unfold kp
                  rw [show k + j - 1 = k + q2 by omega]
                  simp
                  omega)
                have D0 : D4 wr A (o + j * 2) (o + q2 * 2) (E (k + j)).1 (E (k + j)).2 (E (k + q2)).1 (E (k + q2)).2 := by
                  have h1 := hen.two (i := k + j) (j := k + q2) (by omega) (by omega)
                  rw [hh (k + j) (by omega), hh (k + q2) (by omega), show (k + j) * 2 = o + j * 2 by have := HO.out; omega, show (k + q2) * 2 = o + q2 * 2 by have := HO.out; omega] at h1
                  exact h1
                have KN : K < N := by omega
                have KI : (K : Int) < (N : Int) := by omega
                have K0 : (0 : Int) ≤ (K : Int) := by omega
                have jb : j ≤ 4000000000000 := by omega
                have EJ : Hid (∀ W, EntB W A N F → EntB ((W.setCell ⟨A, K * 2, none⟩ (.int .i64 (E (k + j)).1)).setCell ⟨A, K * 2 + 1, none⟩ (.int .i64 (E (k + j)).2)) A N (fun i => if i = K then ((E (k + j)).1, (E (k + j)).2) else F i)) := Lib.hid (fun W hW => hW.put KN _ _)
                have CK : Hid (kp E (k + j) → Cmp E (fun i => if i = K then ((E (k + j)).1, (E (k + j)).2) else F i) (k + j + 1) (K + 1)) := Lib.hid (fun h => CP.out.keep h)
                have CM := Lib.hid (fun W => eqn_any (E (k + j)).1 (E (k + j)).2 (E (k + q2)).1 (E (k + q2)).2 W)
                clear CC
                obtain ⟨a0, ha0⟩ : ∃ x, x = (E (k + j)).1 := ⟨_, rfl⟩
                obtain ⟨b0, hb0⟩ : ∃ x, x = (E (k + j)).2 := ⟨_, rfl⟩
                obtain ⟨a1, ha1⟩ : ∃ x, x = (E (k + q2)).1 := ⟨_, rfl⟩
                obtain ⟨b1, hb1⟩ : ∃ x, x = (E (k + q2)).2 := ⟨_, rfl⟩
                rw [← ha0, ← ha1] at KP2 CM D0
                rw [← hb0, ← hb1] at CM D0
                rw [← ha0, ← hb0] at EJ CK
                clear ha0 hb0 ha1 hb1 hq2 hen hh
                have C0H := Lib.hid D0
                have CC := D0
                have k8 : Below wr.heap.size wr wr := Below.refl _ _
                obtain ⟨cb, hcb⟩ : ∃ c, c = (a0 == a1) := ⟨_, rfl⟩
                rw [← hcb] at CM KP2
                clear hcb D0
                go_wp2_with fail
                go_region_held3 (fun w' => w'.cell? ⟨A, o + j * 2, none⟩ = some (.int .i64 a0) ∧ w'.cell? ⟨A, o + j * 2 + 1, none⟩ = some (.int .i64 b0) ∧ w'.cell? ⟨A, o + q2 * 2, none⟩ = some (.int .i64 a1) ∧ w'.cell? ⟨A, o + q2 * 2 + 1, none⟩ = some (.int .i64 b1))
                  (first | with_reducible exact CC.cells | with_reducible exact CC.drew.cells)
                  (first
                    | (go_at_call 54; (with_reducible refine (CM.out wr.drew).mono ?_); rintro e v2 ⟨rfl, hb⟩; have k8 : Below wr.heap.size wr v2 := bel_drew hb; have CC := C0H.out.later k8))
                all_goals
                  have E2 := EN.out.later k8
                  have F2 := Lib.hid (FR.out.trans (FrmA.of_below k8))
                  have fz := E2.2.1
                  have zA := E2.1
                  obtain ⟨c0, c1, d0, d1⟩ := CC.cells
                  obtain ⟨e0, e1⟩ := E2.2.2 K KN
                  have E3 := Lib.hid E2
                  clear CC C0H CM E2
                  cases cb with
                  | true =>
                    have nk : Hid (¬ kp E (k + j)) := Lib.hid (fun h => by have := KP2.out.1 h; simp at this)
                    clear fz e0 e1
                    go_wp2_with fail
                    exact ⟨⟨K, j + 1, F, rfl, by go_num, by omega, by omega, CP.out.skip nk.out, E3.out, F2.out⟩, by (first | (simp [intOf]; done) | (simp [intOf]; omega) | (simp only [intOf]; omega))⟩
                  | false =>
                    have nk : Hid (kp E (k + j)) := Lib.hid (KP2.out.2 rfl)
                    obtain ⟨f0, hf0⟩ : ∃ f, f = (F K).1 := ⟨_, rfl⟩
                    obtain ⟨f1, hf1⟩ : ∃ f, f = (F K).2 := ⟨_, rfl⟩
                    rw [← hf0] at e0
                    rw [← hf1] at e1
                    clear hf0 hf1
                    go_wp2_with fail
                    exact ⟨⟨K + 1, j + 1, _, by go_num, by go_num, by omega, by omega, CK.out nk.out, EJ.out _ E3.out, F2.out.set.set⟩, by (first | (simp [intOf]; done) | (simp [intOf]; omega) | (simp only [intOf]; omega))⟩
              · have jI : ¬ (j : Int) < (M : Int) := by omega
                obtain rfl : j = M := by omega
                obtain ⟨z, hz⟩ : ∃ z, z = N - K := ⟨_, rfl⟩
                have hcl : ∀ ty, (Builtin.clear_ #[88] ty #[.slice (some ⟨A, K * 2, none⟩) (N - K) (cap - K)]).run Try.prog wr = .ok (.tuple #[]) (wr.setCells A (K * 2) (List.replicate ((N - K) * 2) (.int .i64 0))) := fun ty =>
                  clear_ent wr A (K * 2) (N - K) (cap - K) ty (by omega) (fun i hi => by
                    obtain ⟨g1, g2⟩ := hen.2.2 (K + i / 2) (by omega)
                    have : i % 2 = 0 ∨ i % 2 = 1 := by omega
                    rcases this with e | e
                    · rw [show K * 2 + i = (K + i / 2) * 2 by omega, g1]; rfl
                    · rw [show K * 2 + i = (K + i / 2) * 2 + 1 by omega, g2]; rfl) hen.2.1
                have KN : K ≤ N := by omega
                have Kc : K ≤ cap := by omega
                have KI : (K : Int) ≤ (N : Int) := by omega
                have KcI : (K : Int) ≤ (cap : Int) := by omega
                have K0 : (0 : Int) ≤ (K : Int) := by omega
                have CP2 : Hid (Cmp E F N K) := Lib.hid (by rw [← kM]; exact CP.out)
                clear hh hz hen CP
                go_wp2_with fail
                go_ret
                exact CmpPost.done CP2.out (FR.out.sets _ _) (EN.out.sets KN _ (Nat.le_refl _) _)
          | false =>
            have nk : Hid (kp E k) := Lib.hid (KP.out.2 (by decide))
            go_wp2_with fail
            exact ⟨⟨k + 1, by go_num, by omega, by omega, fun j hj => by
              by_cases e : j = k
              · rw [e]; exact nk.out
              · exact AL.out j (by omega), E1.out, F1.out⟩, by (first | (simp [intOf]; done) | (simp [intOf]; omega) | (simp only [intOf]; omega))⟩
      · have kI : ¬ (k : Int) < (N : Int) := by omega
        obtain rfl : k = N := by omega
        go_wp2_with fail
        go_ret
        exact CmpPost.all AL.out FR.out EN.out
end Go.Proofs.Ytkhdielfnphheaa
