/- Contract of frisketref10.Through. -/
import Derived.Test.YtbmbibjidpgbnaaThr2
import Derived.Test.YtbmbibjidpgbnaaNea3
namespace Go.Proofs.Ytbmbibjidpgbnaa
open Go.RowKit

theorem upto_split {α : Type} (f : Nat → α) (j d : Nat) : ∃ r, upto f (j + d) = upto f j ++ r := by
  induction d with
  | zero => exact ⟨[], by simp⟩
  | succ d ih =>
    obtain ⟨r, hr⟩ := ih
    exact ⟨r ++ [f (j + d)], by rw [← Nat.add_assoc, upto_succ, hr, List.append_assoc]⟩
theorem rev_at {len k : Nat} (ms : Nat → Mp) (h : k < len) : upto (rev len ms) (len - k) = upto (rev len ms) (len - (k + 1)) ++ [ms k] := by
  have e : len - k = len - (k + 1) + 1 := by omega
  rw [e, upto_succ]
  congr 2
  unfold rev
  congr 1
  omega
def GoN (len : Nat) (ms : Nat → Mp) (k : Nat) (x y px py : Int) : Prop := goT (upto (rev len ms) (len - k)) x y = (px, py, 0)
theorem GoN.next {len k : Nat} {ms : Nat → Mp} {x y px py : Int} (h : GoN len ms (k + 1) x y px py) (hk : k < len) (he : aE (ms k) px py = 0) : GoN len ms k x y (aX (ms k) px py) (aY (ms k) px py) := by
  unfold GoN at *
  rw [rev_at ms hk, goT_snoc _ h, if_pos he]
theorem GoN.stop {len k : Nat} {ms : Nat → Mp} {x y px py : Int} (h : GoN len ms (k + 1) x y px py) (hk : k < len) (he : aE (ms k) px py ≠ 0) : goT (upto (rev len ms) len) x y = (0, 0, aE (ms k) px py) := by
  unfold GoN at h
  have h1 : goT (upto (rev len ms) (len - k)) x y = (0, 0, aE (ms k) px py) := by rw [rev_at ms hk, goT_snoc _ h, if_neg he]
  obtain ⟨r, hr⟩ := upto_split (rev len ms) (len - k) k
  rw [show len - k + k = len by omega] at hr
  rw [hr, goT_stay r (by rw [h1]; exact he), h1]
set_option maxRecDepth 100000 in
set_option maxHeartbeats 6400000 in
theorem rthrough_any (a : Option Addr) (len cap : Nat) (ms : Nat → Mp) (x y : Int) (w : World) (hM : Maps w.heap.size w (.slice a len cap) len ms) :
    Calls Try.prog 29 #[.slice a len cap, .agg #[.int .i64 x, .int .i64 y]] w (RetPost (.tuple #[.agg #[.int .i64 (goT (upto (rev len ms) len) x y).1, .int .i64 (goT (upto (rev len ms) len) x y).2.1], .int .i64 (goT (upto (rev len ms) len) x y).2.2]) w) := by
  obtain ⟨a', cap', hv, hlen, hc⟩ := hM
  cases hv
  have C := Lib.hid hc
  clear hc
  obtain ⟨w0, hw0⟩ : ∃ w0, (w.alloc (.cells #[.int .i64 x, .int .i64 y] 25)).alloc (.cells #[.int .i64 0, .int .i64 0] 25) = w0 := ⟨_, rfl⟩
  have P0 : Hid (BxAt w0 w.heap.size [.int .i64 x, .int .i64 y]) := Lib.hid (by rw [← hw0]; exact bx_a w _ _ _)
  have R0 : Hid (BxAt w0 (w.heap.size + 1) [.int .i64 0, .int .i64 0]) := Lib.hid (by rw [← hw0]; exact bx_b w _ _ _)
  have B0 : Hid (Below w.heap.size w w0) := Lib.hid (by rw [← hw0]; exact bel2 _ _ _)
  go_enter Try.func29, Try.ntmps29
  go_wp2_with fail
  clear hw0
  go_loopw [6] (fun i wr => ∃ (k : Nat) (px py : Int), k ≤ len ∧ i = .int .i64 ((k : Int) - 1) ∧ GoN len ms k x y px py ∧ BxAt wr w.heap.size [.int .i64 px, .int .i64 py] ∧ BxAt wr (w.heap.size + 1) [.int .i64 0, .int .i64 0] ∧ Below w.heap.size w wr) (fun i _ => (intOf i + 1).toNat)
  case atStart => exact ⟨len, x, y, Nat.le_refl _, rfl, by unfold GoN; rw [Nat.sub_self]; rfl, P0.out, R0.out, B0.out⟩
  case round =>
    obtain ⟨k, px, py, hk, rfl, hg, hP, hR, hB⟩ := hrel
    have G := Lib.hid hg
    have P := Lib.hid hP
    have R := Lib.hid hR
    have B := Lib.hid hB
    clear hg hP hR hB
    cases k with
    | zero =>
      have p0 := P.out.2.2 0 _ rfl
      have p1 := P.out.2.2 1 _ rfl
      have r0 := R.out.2.2 0 _ rfl
      have r1 := R.out.2.2 1 _ rfl
      have rf := R.out.2.1
      go_wp2_with fail
      have e : goT (upto (rev len ms) len) x y = (px, py, 0) := G.out
      refine bodyPost_ret (v := .tuple #[.agg #[.int .i64 px, .int .i64 py], .int .i64 0]) ?_ rfl ⟨by rw [e], below_store2 B.out (by omega) _ _⟩
      simp [results, Try.results29, go_sem, r0, r1]
    | succ k =>
      obtain ⟨g, off, rfl, hgw, hcc⟩ := C.out (by omega)
      obtain ⟨m0, m1, m2, m3, m4, m5⟩ := (hcc k (by omega)).below B.out hgw
      have p0 := P.out.2.2 0 _ rfl
      have p1 := P.out.2.2 1 _ rfl
      have hk2 : (((k + 1 : Nat) : Int) - 1) = (k : Int) := by omega
      rw [hk2]
      have hk0 : (0 : Int) ≤ (k : Int) := by omega
      have hk3 : (k : Int) < (len : Int) := by omega
      clear hk2 hcc
      go_wp2_with fail
      go_cut [7, 8] (fun s7 s8 wx => ∃ q, s7 = .pointer (some ⟨q, 0, none⟩) ∧ s8 = .int .i64 (aE (ms k) px py) ∧ wr.heap.size ≤ q ∧ BxAt wx q [.int .i64 (aX (ms k) px py), .int .i64 (aY (ms k) px py)] ∧ Below wr.heap.size wr wx)
      case first =>
        have zr : w.heap.size + 1 < wr.heap.size := R.out.1
        have zg : g < wr.heap.size := World.block_lt_of_cell? wr _ m0
        have kk : Below wr.heap.size wr wr := Below.refl _ _
        go_region_held3 (fun w' => w'.cell? ⟨g, off + k * 6, none⟩ = some (.int .i64 (ms k).a) ∧ w'.cell? ⟨g, off + k * 6 + 1, none⟩ = some (.int .i64 (ms k).b) ∧ w'.cell? ⟨g, off + k * 6 + 2, none⟩ = some (.int .i64 (ms k).c) ∧ w'.cell? ⟨g, off + k * 6 + 3, none⟩ = some (.int .i64 (ms k).d) ∧ w'.cell? ⟨g, off + k * 6 + 4, none⟩ = some (.int .i64 (ms k).e) ∧ w'.cell? ⟨g, off + k * 6 + 5, none⟩ = some (.int .i64 (ms k).f) ∧ w'.cell? ⟨w.heap.size, 0, none⟩ = some (.int .i64 px) ∧ w'.cell? ⟨w.heap.size, 1, none⟩ = some (.int .i64 py))
          (first | with_reducible exact ⟨cell_drew m0, cell_drew m1, cell_drew m2, cell_drew m3, cell_drew m4, cell_drew m5, cell_drew p0, cell_drew p1⟩ | with_reducible exact ⟨cell_later kk m0, cell_later kk m1, cell_later kk m2, cell_later kk m3, cell_later kk m4, cell_later kk m5, cell_later kk p0, cell_later kk p1⟩ | with_reducible exact ⟨cell_drew (cell_alloc _ m0), cell_drew (cell_alloc _ m1), cell_drew (cell_alloc _ m2), cell_drew (cell_alloc _ m3), cell_drew (cell_alloc _ m4), cell_drew (cell_alloc _ m5), cell_drew (cell_alloc _ p0), cell_drew (cell_alloc _ p1)⟩ | with_reducible exact ⟨cell_alloc _ (cell_later kk m0), cell_alloc _ (cell_later kk m1), cell_alloc _ (cell_later kk m2), cell_alloc _ (cell_later kk m3), cell_alloc _ (cell_later kk m4), cell_alloc _ (cell_later kk m5), cell_alloc _ (cell_later kk p0), cell_alloc _ (cell_later kk p1)⟩ | with_reducible exact ⟨cell2_far (cell_later kk m0) (by omega), cell2_far (cell_later kk m1) (by omega), cell2_far (cell_later kk m2) (by omega), cell2_far (cell_later kk m3) (by omega), cell2_far (cell_later kk m4) (by omega), cell2_far (cell_later kk m5) (by omega), cell2_far (cell_later kk p0) (by omega), cell2_far (cell_later kk p1) (by omega)⟩)
          (first
            | (go_at_call 13; (with_reducible refine (rapply_any _ _ _ _ _ _ px py wr.drew).mono ?_); rintro r3 v1 ⟨rfl, hb⟩; have kk : Below wr.heap.size wr v1 := bel_drew hb; have z1 := kk.size)
            | (go_at_call 13; (with_reducible refine (rapply_any _ _ _ _ _ _ px py _).mono ?_); rintro r3 v1 ⟨rfl, hb⟩; have kk : Below wr.heap.size wr v1 := bthen (below_alloc _ _) (bel_drew hb); have z1 := kk.size; have M := (BxAt.new wr [.int .i64 0, .int .i64 0] 25).later (bel_drew hb); have n0 := M.2.2 0 _ rfl; have n1 := M.2.2 1 _ rfl; have nf := M.2.1; have nz := M.1; have nn := World.new_ne v1 _ n0))
        all_goals go_wp2_with fail
        all_goals go_meet
        · with_reducible exact ⟨_, rfl, rfl, kk.size, BxAt.new v1 _ _, bthen kk (below_alloc _ _)⟩
        · with_reducible exact ⟨_, rfl, rfl, Nat.le_refl _, M.put2 _ _, below_store2 kk (Nat.le_refl _) _ _⟩
      case rest =>
        obtain ⟨q, rfl, rfl, hq, hX, hbx⟩ := hcut
        have zr : w.heap.size + 1 < wr.heap.size := R.out.1
        have X := Lib.hid hX
        have P := Lib.hid (P.out.later hbx)
        have R := Lib.hid (R.out.later hbx)
        have B := Lib.hid (bthen B.out hbx)
        clear hX hbx m0 m1 m2 m3 m4 m5 p0 p1
        obtain ⟨E, hE⟩ : ∃ E, E = aE (ms k) px py := ⟨_, rfl⟩
        rw [← hE]
        have HE := Lib.hid hE
        clear hE
        by_cases hE0 : E = 0
        · have N := Lib.hid (G.out.next (by omega) (by rw [← HE.out]; exact hE0))
          subst hE0
          have x0 := X.out.2.2 0 _ rfl
          have x1 := X.out.2.2 1 _ rfl
          have p0 := P.out.2.2 0 _ rfl
          have p1 := P.out.2.2 1 _ rfl
          have pf := P.out.2.1
          go_wp2_with fail
          refine ⟨⟨k, _, _, by omega, by go_num, N.out, P.out.put2 _ _, R.out.far2 _ _ (by omega), below_store2 B.out (Nat.le_refl _) _ _⟩, by (first | (simp [intOf]; done) | (simp [intOf]; omega) | (simp only [intOf]; omega))⟩
        · have N := Lib.hid (G.out.stop (by omega) (by rw [← HE.out]; exact hE0))
          have hb0 : (E != 0) = true := by simp; exact hE0
          have r0 := R.out.2.2 0 _ rfl
          have r1 := R.out.2.2 1 _ rfl
          have rf := R.out.2.1
          go_wp2_with fail
          refine bodyPost_ret (v := .tuple #[.agg #[.int .i64 0, .int .i64 0], .int .i64 E]) ?_ rfl ⟨by rw [N.out, HE.out], below_store2 B.out (by omega) _ _⟩
          simp [results, Try.results29, go_sem, r0, r1]
end Go.Proofs.Ytbmbibjidpgbnaa
