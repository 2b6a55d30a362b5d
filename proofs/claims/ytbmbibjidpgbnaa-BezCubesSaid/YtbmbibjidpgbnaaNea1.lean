/- Contracts of frisketref10: Near. -/
import Derived.Test.YtbmbibjidpgbnaaFra6
import Derived.Test.YtbmbibjidpgbnaaWho7
namespace Go.Proofs.Ytbmbibjidpgbnaa
open Go.RowKit

theorem mk_le (z : Int) {n : Nat} (hn : 0 < n) : (mkRat z n).num.natAbs ≤ z.natAbs ∧ (mkRat z n).den ≤ n := by
  rw [Rat.num_mkRat, Rat.den_mkRat, if_neg (by omega), if_neg (by omega)]
  exact ⟨Int.natAbs_ediv_le_natAbs _ _, Nat.div_le_self _ _⟩
theorem floor_le_abs (q : Rat) : q.floor.natAbs ≤ q.num.natAbs := by
  rw [Rat.floor_def]
  exact Int.natAbs_ediv_le_natAbs _ _
/-- a fraction that is not too great for its nearest number -/
def NearOk (q : Rat) : Prop := q.num.natAbs ≤ 17592186044416 ∧ q.den ≤ 1048576
def nearQ (q : Rat) : Int := (q + mkRat 1 2).floor
theorem NearOk.all {q : Rat} (h : NearOk q) : AddOk q (mkRat 1 2) ∧ Small ((q + mkRat 1 2).num.natAbs + (q + mkRat 1 2).den) ∧ (nearQ q).natAbs ≤ 281474976710656 := by
  obtain ⟨h1, h2⟩ := h
  have e1 := half_num.1
  have e2 := half_num.2
  have hp := q.den_pos
  have hm := mk_le (q.num * ((mkRat 1 2).den : Int) + (mkRat 1 2).num * (q.den : Int)) (show 0 < q.den * (mkRat 1 2).den by rw [e2]; omega)
  rw [← Rat.add_def', e1, e2] at hm
  have hf := floor_le_abs (q + mkRat 1 2)
  refine ⟨⟨by rw [e1, e2]; unfold Q62; simp; omega, by rw [e2]; unfold Q62; omega⟩, Small.of (by omega), by unfold nearQ; omega⟩
def RetPost (v : Value) (w : World) (e : Ending) (w' : World) : Prop := e = .returned v ∧ Below w.heap.size w w'
set_option maxRecDepth 100000 in
set_option maxHeartbeats 6400000 in
theorem Near_any (b : Bool) (s d : Value) (q : Rat) (w : World) (hok : NearOk q) (h : Frp w b s d q) :
    Calls Try.prog 63 #[.agg #[.bool b, s, d]] w (RetPost (.int .i64 (nearQ q)) w) := by
  obtain ⟨⟨p1, n1, c1, rfl⟩, p2, n2, c2, rfl⟩ := h.forms
  have OK := Lib.hid hok.all
  have NQ : Hid ((q + mkRat 1 2).floor = nearQ q) := Lib.hid rfl
  obtain ⟨w0, hw0⟩ : ∃ w0, w.alloc (.cells #[.bool b, .slice p1 n1 c1, .slice p2 n2 c2] 106) = w0 := ⟨_, rfl⟩
  have X0 : Hid (BxAt w0 w.heap.size [.bool b, .slice p1 n1 c1, .slice p2 n2 c2]) := Lib.hid (by rw [← hw0]; exact BxAt.new w _ _)
  have Q0 : Hid (Frp w0 b (.slice p1 n1 c1) (.slice p2 n2 c2) q) := Lib.hid (by rw [← hw0]; exact h.later (below_alloc _ _))
  have B0 : Hid (Below w.heap.size w w0) := Lib.hid (by rw [← hw0]; exact below_alloc _ _)
  clear h hok
  go_enter Try.func63, Try.ntmps63
  go_wp2_with fail
  clear hw0
  have a0 := X0.out.2.2 0 _ rfl
  have a1 := X0.out.2.2 1 _ rfl
  have a2 := X0.out.2.2 2 _ rfl
  have k : Below w0.heap.size w0 w0 := Below.refl _ _
  go_region_held3 (fun w' => w'.cell? ⟨w.heap.size, 0, none⟩ = some (.bool b) ∧ w'.cell? ⟨w.heap.size, 1, none⟩ = some (.slice p1 n1 c1) ∧ w'.cell? ⟨w.heap.size, 2, none⟩ = some (.slice p2 n2 c2))
    (first | with_reducible exact ⟨cell_later k a0, cell_later k a1, cell_later k a2⟩ | exact ⟨a0, a1, a2⟩)
    (first
      | (go_at_call 84; (with_reducible refine (FHalf_any _).mono ?_); rintro e v1 ⟨⟨bh, sh, dh, rfl, P1⟩, hb⟩; have k : Below w0.heap.size w0 v1 := bel_drew hb)
      | (go_at_call 67; (with_reducible refine (FAdd_any b _ _ bh sh dh q (mkRat 1 2) _ OK.out.1 (Q0.out.later k) P1).mono ?_); rintro e v2 ⟨⟨bs, ss, ds, rfl, P2⟩, hb⟩; have k := bthen k hb)
      | (go_at_call 83; (with_reducible refine (FFloor_any bs ss ds (q + mkRat 1 2) _ OK.out.2.1 P2).mono ?_); rintro e v3 ⟨⟨bf, sf, rfl, P3⟩, hb⟩; have k := bthen k hb; rw [NQ.out] at P3)
      | (go_at_call 82; (with_reducible refine (WInt_any bf sf (nearQ q) _ OK.out.2.2 P3).mono ?_); rintro e v4 ⟨rfl, hb⟩; have k := bthen k hb))
  all_goals go_wp2_with fail
  go_ret
  exact ⟨rfl, bthen B0.out k⟩
end Go.Proofs.Ytbmbibjidpgbnaa
