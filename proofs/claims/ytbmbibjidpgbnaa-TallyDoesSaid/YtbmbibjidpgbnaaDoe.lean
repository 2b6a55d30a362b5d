/- The law TallyDoes over its contracts. -/
import Derived.Test.YtbmbibjidpgbnaaTal4
import Derived.Test.YtbmbibjidpgbnaaThr
namespace Go.Proofs.Ytbmbibjidpgbnaa
open Go.RowKit
theorem IsRef.later {w w' : World} {g : Nat} {N P : Nat → Int} (h : IsRef w g N P) (hB : Below w.heap.size w w') : IsRef w' g N P := fun k hk => by
  obtain ⟨h1, h2, h3, h4⟩ := h k hk
  have hg : g < w.heap.size := World.block_lt_of_cell? _ _ h1
  exact ⟨cell_later hB h1, cell_later hB h2, by rw [hB.frozen (p := ⟨g, _, none⟩) hg]; exact h3, by rw [hB.frozen (p := ⟨g, _, none⟩) hg]; exact h4⟩
theorem IsTally.later {w w' : World} {g : Nat} {N P : Nat → Int} (h : IsTally w g N P) (hB : Below w.heap.size w w') : IsTally w' g N P := fun k hk => by
  obtain ⟨h1, h2, h3, h4⟩ := h k hk
  have hg : g < w.heap.size := World.block_lt_of_cell? _ _ h1
  exact ⟨cell_later hB h1, cell_later hB h2, by rw [hB.frozen (p := ⟨g, _, none⟩) hg]; exact h3, by rw [hB.frozen (p := ⟨g, _, none⟩) hg]; exact h4⟩
theorem IsTally.drew {w : World} {g : Nat} {N P : Nat → Int} (h : IsTally w g N P) : IsTally w.drew g N P := h
theorem IsTally.drewN {w : World} {g n : Nat} {N P : Nat → Int} (h : IsTally w g N P) : IsTally (w.drewN n) g N P := h
theorem get_all (g : Nat) (N P : Nat → Int) (w : World) (h : IsTally w g N P) : Calls Try.prog 40 #[.pointer (some ⟨g, 0, none⟩)] w (AllPost N w) :=
  all_any (some ⟨g, 0, none⟩) N w fun k w' hk hb => (get_t g N P k w' (h.later hb)).mono fun e w2 ⟨he, hw⟩ => ⟨by rw [he]; unfold getV; rw [if_pos (by omega)]; simp, hw⟩

def SameRel (t q g off : Nat) (N P : Nat → Int) (w wr : World) : Prop :=
  IsTally wr t N P ∧ IsRef wr q N P ∧ (∀ j, j < 7 → wr.cell? ⟨g, off + j, none⟩ = some (.int .i64 (N j))) ∧ Below w.heap.size w wr

theorem Below.drewN {B n : Nat} {w w' : World} (h : Below B w w') : Below B w (w'.drewN n) := ⟨h.os, h.tape, h.output, h.size, h.block⟩
theorem SameRel.drewN {t q g off n : Nat} {N P : Nat → Int} {w wr : World} (h : SameRel t q g off N P w wr) : SameRel t q g off N P w (wr.drewN n) := ⟨h.1, h.2.1, h.2.2.1, Below.drewN h.2.2.2⟩

set_option maxRecDepth 100000 in
set_option maxHeartbeats 3200000 in
theorem same_any (t q : Nat) (N P : Nat → Int) (w : World) (ht : IsTally w t N P) (hq : IsRef w q N P) :
    Calls Try.prog 39 #[.pointer (some ⟨t, 0, none⟩), .pointer (some ⟨q, 0, none⟩)] w fun e w' => e = .returned (.bool true) ∧ Below w.heap.size w w' := by
  have T := Lib.hid ht
  have Q := Lib.hid hq
  clear ht hq
  go_enter Try.func39, Try.ntmps39
  go_wp2_with fail
  refine (get_all t N P _ T.out).mono ?_
  rintro e w1 ⟨v, rfl, hrd, hb⟩
  obtain ⟨a, cap, rfl, _, hc⟩ := hrd
  obtain ⟨g, off, rfl, hc2⟩ := hc (by omega)
  have B := Lib.hid hb
  have C := Lib.hid hc2
  have T1 := Lib.hid (T.out.later hb)
  have Q1 := Lib.hid (Q.out.later hb)
  clear hb hc hc2 T Q
  go_wp2_with fail
  have R0 := Lib.hid (show SameRel t q g off N P w w1 from ⟨T1.out, Q1.out, fun j hj => C.out j hj, B.out⟩)
  clear B C T1 Q1
  go_loopw [6] (fun i wr => ∃ j : Nat, j ≤ 7 ∧ i = .int .i64 j ∧ SameRel t q g off N P w wr) (fun i _ => 7 - (intOf i).toNat)
  case atStart => exact ⟨0, by omega, rfl, R0.out⟩
  case round =>
    obtain ⟨j, hj, rfl, hr⟩ := hrel
    have R := Lib.hid hr
    clear hr R0
    by_cases hlt : j < 7
    · have hcell := R.out.2.2.1 j hlt
      obtain ⟨q1, q2, _, _⟩ := R.out.2.1 j hlt
      have hv : getV N (j : Int) = N j := by unfold getV; rw [if_pos (by omega)]; simp
      have hv2 : getV P (j : Int) = P j := by unfold getV; rw [if_pos (by omega)]; simp
      have G23 : ∀ m, Calls Try.prog 23 #[.pointer (some ⟨t, 0, none⟩), .int .i64 j] (wr.drewN m) fun e w' => e = .returned (.int .i64 (N j)) ∧ w' = wr.drewN m := fun m =>
        (get_t t N P _ _ (R.out.1.drewN)).mono fun e w2 ⟨he, hw⟩ => ⟨by rw [he, hv], hw.symm⟩
      have G37 : ∀ m, Calls Try.prog 37 #[.pointer (some ⟨t, 0, none⟩), .int .i64 j] (wr.drewN m) fun e w' => e = .returned (.int .i64 (P j)) ∧ w' = wr.drewN m := fun m =>
        (peak_t t N P _ _ (R.out.1.drewN)).mono fun e w2 ⟨he, hw⟩ => ⟨by rw [he, hv2], hw.symm⟩
      have H23 := Lib.hid G23
      have H37 := Lib.hid G37
      have j0 : (0 : Int) ≤ (j : Int) := Int.natCast_nonneg _
      have j1 : (j : Int) < 7 := by omega
      clear G23 G37 hv hv2
      go_wp2_with fail
      go_quiet ((first | (go_at_call 23; exact Calls.quiet_of_same (H23.out _)) | (go_at_call 37; exact Calls.quiet_of_same (H37.out _))))
      clear H23 H37 j0 j1 q1 q2 hcell
      go_wp2_with fail
      go_roundw
      case rel => exact ⟨j + 1, by omega, by go_num, R.out.drewN⟩
      case measure => simp [intOf]; omega
    · obtain rfl : j = 7 := by omega
      go_wp2_with fail
      go_ret
      exact ⟨rfl, R.out.2.2.2⟩

structure Dd where
  kd : Int
  k : Int
  was : Int
  n : Int
def DdAt (W : World) (g o : Nat) (d : Dd) : Prop :=
  W.cell? ⟨g, o, none⟩ = some (.int .i64 d.kd) ∧ W.cell? ⟨g, o + 1, none⟩ = some (.int .i64 d.k) ∧ W.cell? ⟨g, o + 2, none⟩ = some (.int .i64 d.was) ∧ W.cell? ⟨g, o + 3, none⟩ = some (.int .i64 d.n)
theorem DdAt.below {n₀ : Nat} {A B : World} (h : Below n₀ A B) {g o : Nat} (hg : g < n₀) {m : Dd} (hm : DdAt A g o m) : DdAt B g o m := by
  obtain ⟨h0, h1, h2, h3⟩ := hm
  exact ⟨(h.cell (p := ⟨g, _, none⟩) hg).trans h0, (h.cell (p := ⟨g, _, none⟩) hg).trans h1, (h.cell (p := ⟨g, _, none⟩) hg).trans h2, (h.cell (p := ⟨g, _, none⟩) hg).trans h3⟩
theorem IsRef.drewN {w : World} {g n : Nat} {N P : Nat → Int} (h : IsRef w g N P) : IsRef (w.drewN n) g N P := h
theorem Below.of_drew {N : Nat} {W W1 : World} (h : Below N W.drew W1) : Below N W W1 := ⟨h.os, h.tape, h.output, h.size, h.block⟩
/-- both have the same counts -/
def Both (t q : Nat) (w wr : World) : Prop := ∃ N P, IsTally wr t N P ∧ IsRef wr q N P ∧ Below w.heap.size w wr

theorem does_facts {w wr W1 : World} {N P : Nat → Int} {dk dK dw dn : Int} (hW1 : wr.alloc (.cells #[.int .i64 dk, .int .i64 dK, .int .i64 dw, .int .i64 dn] 61) = W1)
    (h : IsTally wr w.heap.size N P ∧ IsRef wr (w.heap.size + 1) N P ∧ Below w.heap.size w wr) :
    W1.cell? ⟨wr.heap.size, 0, none⟩ = some (.int .i64 dk) ∧ W1.cell? ⟨wr.heap.size, 1, none⟩ = some (.int .i64 dK) ∧ W1.cell? ⟨wr.heap.size, 2, none⟩ = some (.int .i64 dw) ∧ W1.cell? ⟨wr.heap.size, 3, none⟩ = some (.int .i64 dn) ∧
    w.heap.size < wr.heap.size ∧ w.heap.size + 1 < wr.heap.size ∧ IsTally W1 w.heap.size N P ∧ IsRef W1 (w.heap.size + 1) N P ∧ Below w.heap.size w W1 := by
  obtain ⟨h1, h2, h3⟩ := h
  have hb := Blk.new wr #[.int .i64 dk, .int .i64 dK, .int .i64 dw, .int .i64 dn] 61
  have hl := (Below.refl wr.heap.size wr).alloc (Nat.le_refl _) (.cells #[.int .i64 dk, .int .i64 dK, .int .i64 dw, .int .i64 dn] 61)
  subst hW1
  exact ⟨hb.cell 0, hb.cell 1, hb.cell 2, hb.cell 3, World.block_lt_of_cell? _ _ (h1 0 (by omega)).1, World.block_lt_of_cell? _ _ (h2 0 (by omega)).1, h1.later hl, h2.later hl, h3.alloc h3.size _⟩

set_option maxRecDepth 100000 in
set_option maxHeartbeats 6400000 in
theorem does_any (a : Option Addr) (len cap : Nat) (ds : Nat → Dd) (k : Int) (w : World) (hl : len ≤ 9223372036854775807)
    (ha : ∀ j, j < len → ∃ b off, a = some ⟨b, off, none⟩ ∧ b < w.heap.size ∧ DdAt w b (off + j * 4) (ds j)) :
    Calls Try.prog 7 #[.slice a len cap, .int .i64 k] w fun e w' => e = .returned (.bool true) ∧ Below w.heap.size w w' := by
  have A := Lib.hid ha
  clear ha
  have h0 : Both w.heap.size (w.heap.size + 1) w ((w.alloc T14).alloc (.cells #[.int .i64 0, .int .i64 0, .int .i64 0, .int .i64 0, .int .i64 0, .int .i64 0, .int .i64 0, .int .i64 0, .int .i64 0, .int .i64 0, .int .i64 0, .int .i64 0, .int .i64 0, .int .i64 0] 59)) := by
    have b0 : Below w.heap.size w (w.alloc T14) := (Below.refl _ _).alloc (Nat.le_refl _) _
    refine ⟨zeros, zeros, (isTally_new w).below ((Below.refl (w.heap.size + 1) (w.alloc T14)).alloc (by simp) _) (by omega), ?_, b0.alloc (by simp) _⟩
    intro k hk
    have hb := Blk.new (w.alloc T14) #[.int .i64 0, .int .i64 0, .int .i64 0, .int .i64 0, .int .i64 0, .int .i64 0, .int .i64 0, .int .i64 0, .int .i64 0, .int .i64 0, .int .i64 0, .int .i64 0, .int .i64 0, .int .i64 0] 59
    rw [World.size_alloc] at hb
    obtain rfl | rfl | rfl | rfl | rfl | rfl | rfl : k = 0 ∨ k = 1 ∨ k = 2 ∨ k = 3 ∨ k = 4 ∨ k = 5 ∨ k = 6 := by omega
    all_goals exact ⟨hb.cell _, hb.cell _, hb.frozen _, hb.frozen _⟩
  have H0 := Lib.hid h0
  obtain ⟨m, hm⟩ : ∃ m : Nat, m = min len 60 := ⟨_, rfl⟩
  have m1 : m ≤ len := by omega
  have m2 : m ≤ 60 := by omega
  have M := Lib.hid hm
  clear h0 hm
  go_enter Try.func7, Try.ntmps7
  go_wp2_with (first | (go_at_call 21; refine (new_any _).mono ?_; rintro e w' ⟨rfl, rfl⟩))
  go_loopw [7] (fun i wr => ∃ j : Nat, j ≤ m ∧ i = .int .i64 j ∧ Both w.heap.size (w.heap.size + 1) w wr) (fun i _ => m - (intOf i).toNat)
  case atStart => exact ⟨0, Nat.zero_le _, rfl, H0.out⟩
  case round =>
    obtain ⟨j, hj, rfl, hup⟩ := hrel
    clear H0
    by_cases hlt : j < m
    · obtain ⟨b, off, rfl, hb, hd⟩ := A.out j (by omega)
      obtain ⟨N, P, u1, u2, u3⟩ := hup
      obtain ⟨c0, c1, c2, c3⟩ := hd.below u3 hb
      have hj1 : j < len := by omega
      have hj2 : j < 60 := by omega
      have hbz : b < wr.heap.size := Nat.lt_of_lt_of_le hb u3.size
      have U := Lib.hid (And.intro u1 (And.intro u2 u3))
      clear u1 u2 u3 hd
      obtain ⟨d, hds⟩ : ∃ d, ds j = d := ⟨_, rfl⟩
      rw [hds] at c0 c1 c2 c3
      clear hds
      obtain ⟨dk, dK, dw, dn⟩ := d
      dsimp only at c0 c1 c2 c3
      by_cases hk0 : dk = 0
      · subst hk0
        go_wp2_with fail
        obtain ⟨W1, hW1⟩ : ∃ W1, wr.alloc (.cells #[.int .i64 0, .int .i64 dK, .int .i64 dw, .int .i64 dn] 61) = W1 := ⟨_, rfl⟩
        have F := does_facts hW1 U.out
        rw [hW1]
        clear hW1 c0 c1 c2 c3
        obtain ⟨f0, f1, f2, f3, z1, z2, f4, f5, f6⟩ := F
        have F4 := Lib.hid f4
        have F5 := Lib.hid f5
        have F6 := Lib.hid f6
        clear f4 f5 f6 U
        go_region_held3 (fun w' => w'.cell? ⟨wr.heap.size, 1, none⟩ = some (.int .i64 dK) ∧ w'.cell? ⟨wr.heap.size, 2, none⟩ = some (.int .i64 dw) ∧ w'.cell? ⟨wr.heap.size, 3, none⟩ = some (.int .i64 dn))
          (first | (exact ⟨f1, f2, f3⟩) | (exact ⟨s1, s2, s3⟩) | (exact ⟨t1, t2, t3⟩))
          (first | (go_at_call 22; refine (add_t w.heap.size N P dK dn _ (IsTally.drew F4.out)).mono ?_; rintro e w1 ⟨rfl, h1, o1⟩; have s1 := (o1.cell (b := wr.heap.size) (o := 1) (by omega)).trans f1; have s2 := (o1.cell (b := wr.heap.size) (o := 2) (by omega)).trans f2; have s3 := (o1.cell (b := wr.heap.size) (o := 3) (by omega)).trans f3; have H1 := Lib.hid h1; have O1 := Lib.hid o1; have R1 := Lib.hid ((IsRef.drew F5.out).only o1 (by omega)); clear h1 o1) | (go_at_call 31; refine (add_r (w.heap.size + 1) N P dK dn _ R1.out).mono ?_; rintro e w2 ⟨rfl, h2, o2⟩; have t1 := (o2.cell (b := wr.heap.size) (o := 1) (by omega)).trans s1; have t2 := (o2.cell (b := wr.heap.size) (o := 2) (by omega)).trans s2; have t3 := (o2.cell (b := wr.heap.size) (o := 3) (by omega)).trans s3; have H2 := Lib.hid h2; have O2 := Lib.hid o2; have R2 := Lib.hid (H1.out.only o2 (by omega)); clear h2 o2))
        have B2 : Below w.heap.size w w2 := (Below.of_drew (O1.out.below (B := w.heap.size) (Nat.le_refl _))).trans (O2.out.below (B := w.heap.size) (by omega)) |> F6.out.trans
        obtain ⟨N', P', TT, RR, BB⟩ : Both w.heap.size (w.heap.size + 1) w w2 := ⟨_, _, R2.out, H2.out, B2⟩
        have T3 := Lib.hid TT
        have R3 := Lib.hid RR
        have B3 := Lib.hid BB
        have G23 : Hid (∀ m, Calls Try.prog 23 #[.pointer (some ⟨w.heap.size, 0, none⟩), .int .i64 dK] (w2.drewN m) fun e w' => e = .returned (.int .i64 (getV N' dK)) ∧ w' = w2.drewN m) := fun m =>
          (get_t w.heap.size N' P' dK _ (IsTally.drewN TT)).mono fun e w2 ⟨he, hw⟩ => ⟨he, hw.symm⟩
        have G37 : Hid (∀ m, Calls Try.prog 37 #[.pointer (some ⟨w.heap.size, 0, none⟩), .int .i64 dK] (w2.drewN m) fun e w' => e = .returned (.int .i64 (getV P' dK)) ∧ w' = w2.drewN m) := fun m =>
          (peak_t w.heap.size N' P' dK _ (IsTally.drewN TT)).mono fun e w2 ⟨he, hw⟩ => ⟨he, hw.symm⟩
        have G36 : Hid (∀ m, Calls Try.prog 36 #[.pointer (some ⟨w.heap.size + 1, 0, none⟩), .int .i64 dK] (w2.drewN m) fun e w' => e = .returned (.int .i64 (getV N' dK)) ∧ w' = w2.drewN m) := fun m =>
          (get_r (w.heap.size + 1) N' P' dK _ (IsRef.drewN RR)).mono fun e w2 ⟨he, hw⟩ => ⟨he, hw.symm⟩
        have G38 : Hid (∀ m, Calls Try.prog 38 #[.pointer (some ⟨w.heap.size + 1, 0, none⟩), .int .i64 dK] (w2.drewN m) fun e w' => e = .returned (.int .i64 (getV P' dK)) ∧ w' = w2.drewN m) := fun m =>
          (top_r (w.heap.size + 1) N' P' dK _ (IsRef.drewN RR)).mono fun e w2 ⟨he, hw⟩ => ⟨he, hw.symm⟩
        clear TT RR BB B2 H1 O1 R1 H2 O2 R2 F4 F5 F6 f0 f1 f2 f3 s1 s2 s3
        go_wp2_with fail
        go_quiet ((first | (go_at_call 23; exact Calls.quiet_of_same (G23.out _)) | (go_at_call 37; exact Calls.quiet_of_same (G37.out _)) | (go_at_call 36; exact Calls.quiet_of_same (G36.out _)) | (go_at_call 38; exact Calls.quiet_of_same (G38.out _))))
        clear G23 G37 G36 G38
        go_wp2_with fail
        go_roundw
        case rel => exact ⟨j + 1, by omega, by go_num, N', P', IsTally.drewN T3.out, IsRef.drewN R3.out, Below.drewN B3.out⟩
        case measure => simp [intOf]; omega
      by_cases hk1 : dk = 1
      · subst hk1
        go_wp2_with fail
        obtain ⟨W1, hW1⟩ : ∃ W1, wr.alloc (.cells #[.int .i64 1, .int .i64 dK, .int .i64 dw, .int .i64 dn] 61) = W1 := ⟨_, rfl⟩
        have F := does_facts hW1 U.out
        rw [hW1]
        clear hW1 c0 c1 c2 c3
        obtain ⟨f0, f1, f2, f3, z1, z2, f4, f5, f6⟩ := F
        have F4 := Lib.hid f4
        have F5 := Lib.hid f5
        have F6 := Lib.hid f6
        clear f4 f5 f6 U
        go_region_held3 (fun w' => w'.cell? ⟨wr.heap.size, 1, none⟩ = some (.int .i64 dK) ∧ w'.cell? ⟨wr.heap.size, 2, none⟩ = some (.int .i64 dw) ∧ w'.cell? ⟨wr.heap.size, 3, none⟩ = some (.int .i64 dn))
          (first | (exact ⟨f1, f2, f3⟩) | (exact ⟨s1, s2, s3⟩) | (exact ⟨t1, t2, t3⟩))
          (first | (go_at_call 32; refine (swap_t w.heap.size N P dK dn _ (IsTally.drew F4.out)).mono ?_; rintro e w1 ⟨rfl, h1, o1⟩; have s1 := (o1.cell (b := wr.heap.size) (o := 1) (by omega)).trans f1; have s2 := (o1.cell (b := wr.heap.size) (o := 2) (by omega)).trans f2; have s3 := (o1.cell (b := wr.heap.size) (o := 3) (by omega)).trans f3; have H1 := Lib.hid h1; have O1 := Lib.hid o1; have R1 := Lib.hid ((IsRef.drew F5.out).only o1 (by omega)); clear h1 o1) | (go_at_call 33; refine (swap_r (w.heap.size + 1) N P dK dn _ R1.out).mono ?_; rintro e w2 ⟨rfl, h2, o2⟩; have t1 := (o2.cell (b := wr.heap.size) (o := 1) (by omega)).trans s1; have t2 := (o2.cell (b := wr.heap.size) (o := 2) (by omega)).trans s2; have t3 := (o2.cell (b := wr.heap.size) (o := 3) (by omega)).trans s3; have H2 := Lib.hid h2; have O2 := Lib.hid o2; have R2 := Lib.hid (H1.out.only o2 (by omega)); clear h2 o2))
        have B2 : Below w.heap.size w w2 := (Below.of_drew (O1.out.below (B := w.heap.size) (Nat.le_refl _))).trans (O2.out.below (B := w.heap.size) (by omega)) |> F6.out.trans
        obtain ⟨N', P', TT, RR, BB⟩ : Both w.heap.size (w.heap.size + 1) w w2 := ⟨_, _, R2.out, H2.out, B2⟩
        have T3 := Lib.hid TT
        have R3 := Lib.hid RR
        have B3 := Lib.hid BB
        have G23 : Hid (∀ m, Calls Try.prog 23 #[.pointer (some ⟨w.heap.size, 0, none⟩), .int .i64 dK] (w2.drewN m) fun e w' => e = .returned (.int .i64 (getV N' dK)) ∧ w' = w2.drewN m) := fun m =>
          (get_t w.heap.size N' P' dK _ (IsTally.drewN TT)).mono fun e w2 ⟨he, hw⟩ => ⟨he, hw.symm⟩
        have G37 : Hid (∀ m, Calls Try.prog 37 #[.pointer (some ⟨w.heap.size, 0, none⟩), .int .i64 dK] (w2.drewN m) fun e w' => e = .returned (.int .i64 (getV P' dK)) ∧ w' = w2.drewN m) := fun m =>
          (peak_t w.heap.size N' P' dK _ (IsTally.drewN TT)).mono fun e w2 ⟨he, hw⟩ => ⟨he, hw.symm⟩
        have G36 : Hid (∀ m, Calls Try.prog 36 #[.pointer (some ⟨w.heap.size + 1, 0, none⟩), .int .i64 dK] (w2.drewN m) fun e w' => e = .returned (.int .i64 (getV N' dK)) ∧ w' = w2.drewN m) := fun m =>
          (get_r (w.heap.size + 1) N' P' dK _ (IsRef.drewN RR)).mono fun e w2 ⟨he, hw⟩ => ⟨he, hw.symm⟩
        have G38 : Hid (∀ m, Calls Try.prog 38 #[.pointer (some ⟨w.heap.size + 1, 0, none⟩), .int .i64 dK] (w2.drewN m) fun e w' => e = .returned (.int .i64 (getV P' dK)) ∧ w' = w2.drewN m) := fun m =>
          (top_r (w.heap.size + 1) N' P' dK _ (IsRef.drewN RR)).mono fun e w2 ⟨he, hw⟩ => ⟨he, hw.symm⟩
        clear TT RR BB B2 H1 O1 R1 H2 O2 R2 F4 F5 F6 f0 f1 f2 f3 s1 s2 s3
        go_wp2_with fail
        go_quiet ((first | (go_at_call 23; exact Calls.quiet_of_same (G23.out _)) | (go_at_call 37; exact Calls.quiet_of_same (G37.out _)) | (go_at_call 36; exact Calls.quiet_of_same (G36.out _)) | (go_at_call 38; exact Calls.quiet_of_same (G38.out _))))
        clear G23 G37 G36 G38
        go_wp2_with fail
        go_roundw
        case rel => exact ⟨j + 1, by omega, by go_num, N', P', IsTally.drewN T3.out, IsRef.drewN R3.out, Below.drewN B3.out⟩
        case measure => simp [intOf]; omega
      · have e0 : (dk == 0) = false := by simpa using hk0
        have e1 : (dk == 1) = false := by simpa using hk1
        go_wp2_with fail
        obtain ⟨W1, hW1⟩ : ∃ W1, wr.alloc (.cells #[.int .i64 dk, .int .i64 dK, .int .i64 dw, .int .i64 dn] 61) = W1 := ⟨_, rfl⟩
        have F := does_facts hW1 U.out
        rw [hW1]
        clear hW1 c0 c1 c2 c3
        obtain ⟨f0, f1, f2, f3, z1, z2, f4, f5, f6⟩ := F
        have F4 := Lib.hid f4
        have F5 := Lib.hid f5
        have F6 := Lib.hid f6
        clear f4 f5 f6 U
        go_region_held3 (fun w' => w'.cell? ⟨wr.heap.size, 1, none⟩ = some (.int .i64 dK) ∧ w'.cell? ⟨wr.heap.size, 2, none⟩ = some (.int .i64 dw) ∧ w'.cell? ⟨wr.heap.size, 3, none⟩ = some (.int .i64 dn))
          (first | (exact ⟨f1, f2, f3⟩) | (exact ⟨s1, s2, s3⟩) | (exact ⟨t1, t2, t3⟩))
          (first | (go_at_call 34; refine (try_t w.heap.size N P dK dw dn _ (IsTally.drew F4.out)).mono ?_; rintro e w1 ⟨rfl, h1, o1⟩; have s1 := (o1.cell (b := wr.heap.size) (o := 1) (by omega)).trans f1; have s2 := (o1.cell (b := wr.heap.size) (o := 2) (by omega)).trans f2; have s3 := (o1.cell (b := wr.heap.size) (o := 3) (by omega)).trans f3; have H1 := Lib.hid h1; have O1 := Lib.hid o1; have R1 := Lib.hid ((IsRef.drew F5.out).only o1 (by omega)); clear h1 o1) | (go_at_call 35; refine (try_r (w.heap.size + 1) N P dK dw dn _ R1.out).mono ?_; rintro e w2 ⟨rfl, h2, o2⟩; have t1 := (o2.cell (b := wr.heap.size) (o := 1) (by omega)).trans s1; have t2 := (o2.cell (b := wr.heap.size) (o := 2) (by omega)).trans s2; have t3 := (o2.cell (b := wr.heap.size) (o := 3) (by omega)).trans s3; have H2 := Lib.hid h2; have O2 := Lib.hid o2; have R2 := Lib.hid (H1.out.only o2 (by omega)); clear h2 o2))
        have B2 : Below w.heap.size w w2 := (Below.of_drew (O1.out.below (B := w.heap.size) (Nat.le_refl _))).trans (O2.out.below (B := w.heap.size) (by omega)) |> F6.out.trans
        obtain ⟨N', P', TT, RR, BB⟩ : Both w.heap.size (w.heap.size + 1) w w2 := ⟨_, _, R2.out, H2.out, B2⟩
        have T3 := Lib.hid TT
        have R3 := Lib.hid RR
        have B3 := Lib.hid BB
        have G23 : Hid (∀ m, Calls Try.prog 23 #[.pointer (some ⟨w.heap.size, 0, none⟩), .int .i64 dK] (w2.drewN m) fun e w' => e = .returned (.int .i64 (getV N' dK)) ∧ w' = w2.drewN m) := fun m =>
          (get_t w.heap.size N' P' dK _ (IsTally.drewN TT)).mono fun e w2 ⟨he, hw⟩ => ⟨he, hw.symm⟩
        have G37 : Hid (∀ m, Calls Try.prog 37 #[.pointer (some ⟨w.heap.size, 0, none⟩), .int .i64 dK] (w2.drewN m) fun e w' => e = .returned (.int .i64 (getV P' dK)) ∧ w' = w2.drewN m) := fun m =>
          (peak_t w.heap.size N' P' dK _ (IsTally.drewN TT)).mono fun e w2 ⟨he, hw⟩ => ⟨he, hw.symm⟩
        have G36 : Hid (∀ m, Calls Try.prog 36 #[.pointer (some ⟨w.heap.size + 1, 0, none⟩), .int .i64 dK] (w2.drewN m) fun e w' => e = .returned (.int .i64 (getV N' dK)) ∧ w' = w2.drewN m) := fun m =>
          (get_r (w.heap.size + 1) N' P' dK _ (IsRef.drewN RR)).mono fun e w2 ⟨he, hw⟩ => ⟨he, hw.symm⟩
        have G38 : Hid (∀ m, Calls Try.prog 38 #[.pointer (some ⟨w.heap.size + 1, 0, none⟩), .int .i64 dK] (w2.drewN m) fun e w' => e = .returned (.int .i64 (getV P' dK)) ∧ w' = w2.drewN m) := fun m =>
          (top_r (w.heap.size + 1) N' P' dK _ (IsRef.drewN RR)).mono fun e w2 ⟨he, hw⟩ => ⟨he, hw.symm⟩
        clear TT RR BB B2 H1 O1 R1 H2 O2 R2 F4 F5 F6 f0 f1 f2 f3 s1 s2 s3
        go_wp2_with fail
        go_quiet ((first | (go_at_call 23; exact Calls.quiet_of_same (G23.out _)) | (go_at_call 37; exact Calls.quiet_of_same (G37.out _)) | (go_at_call 36; exact Calls.quiet_of_same (G36.out _)) | (go_at_call 38; exact Calls.quiet_of_same (G38.out _))))
        clear G23 G37 G36 G38
        go_wp2_with fail
        go_roundw
        case rel => exact ⟨j + 1, by omega, by go_num, N', P', IsTally.drewN T3.out, IsRef.drewN R3.out, Below.drewN B3.out⟩
        case measure => simp [intOf]; omega
    · obtain rfl : j = m := by omega
      clear hlt
      have hmm : (len ≤ j ∧ j ≤ 60) ∨ (j = 60 ∧ j < len) := by have := M.out; omega
      obtain ⟨N, P, u1, u2, u3⟩ := hup
      have T := Lib.hid u1
      have R := Lib.hid u2
      have B := Lib.hid u3
      clear u1 u2 u3
      rcases hmm with ⟨hl1, hl2⟩ | ⟨rfl, hl2⟩
      · go_wp2_with fail
        refine (same_any _ _ N P _ T.out R.out).mono ?_
        rintro e w1 ⟨rfl, hb1⟩
        have T1 := Lib.hid (T.out.later hb1)
        have R1 := Lib.hid (R.out.later hb1)
        have B1 := Lib.hid (B.out.trans (hb1.mono B.out.size))
        clear hb1 T R B
        go_wp2_with (first | (go_at_call 23; refine (get_t w.heap.size N P k _ T1.out).mono ?_; rintro e w' ⟨rfl, rfl⟩) | (go_at_call 36; refine (get_r (w.heap.size + 1) N P k _ R1.out).mono ?_; rintro e w' ⟨rfl, rfl⟩) | (go_at_call 37; refine (peak_t w.heap.size N P k _ T1.out).mono ?_; rintro e w' ⟨rfl, rfl⟩) | (go_at_call 38; refine (top_r (w.heap.size + 1) N P k _ R1.out).mono ?_; rintro e w' ⟨rfl, rfl⟩))
        refine (lives43 _).mono ?_
        rintro e w2 ⟨rfl, hb2⟩
        have B2 := Lib.hid hb2
        clear hb2
        go_wp2_with fail
        go_ret
        exact ⟨rfl, B1.out.trans (B2.out.mono B1.out.size)⟩
      · go_wp2_with fail
        refine (same_any _ _ N P _ T.out R.out).mono ?_
        rintro e w1 ⟨rfl, hb1⟩
        have T1 := Lib.hid (T.out.later hb1)
        have R1 := Lib.hid (R.out.later hb1)
        have B1 := Lib.hid (B.out.trans (hb1.mono B.out.size))
        clear hb1 T R B
        go_wp2_with (first | (go_at_call 23; refine (get_t w.heap.size N P k _ T1.out).mono ?_; rintro e w' ⟨rfl, rfl⟩) | (go_at_call 36; refine (get_r (w.heap.size + 1) N P k _ R1.out).mono ?_; rintro e w' ⟨rfl, rfl⟩) | (go_at_call 37; refine (peak_t w.heap.size N P k _ T1.out).mono ?_; rintro e w' ⟨rfl, rfl⟩) | (go_at_call 38; refine (top_r (w.heap.size + 1) N P k _ R1.out).mono ?_; rintro e w' ⟨rfl, rfl⟩))
        refine (lives43 _).mono ?_
        rintro e w2 ⟨rfl, hb2⟩
        have B2 := Lib.hid hb2
        clear hb2
        go_wp2_with fail
        go_ret
        exact ⟨rfl, B1.out.trans (B2.out.mono B1.out.size)⟩
end Go.Proofs.Ytbmbibjidpgbnaa
