/- Contracts of the tracer's curve and step. -/
import Derived.Test.YthglgempbdaikaaPa6
namespace Go.Proofs.Ythglgempbdaikaa
open Go.RowKit

theorem TrS.later {w w1 : World} {T Bd Bn : Nat} {t : TS} (h : TrS w T Bd Bn t) (hb : Below w.heap.size w w1) : TrS w1 T Bd Bn t := by
  obtain ⟨vd, p, n, c, tb, hv, h1, h2, h3, own, hD⟩ := h
  exact ⟨vd, p, n, c, tb.later hb, hv, h1, h2, Nat.le_trans h3 hb.size, own_later own hb, hD.below (hb.mono h3) (Nat.le_refl _)⟩
theorem TrS.fre {w w1 : World} {T Bd Bn g : Nat} {t : TS} (h : TrS w T Bd Bn t) (hb : Below w.heap.size w w1) (hg : w.heap.size ≤ g) (hg2 : g < w1.heap.size) : Fre w1 T g := by
  obtain ⟨vd, p, n, c, tb, hv, h1, h2, h3, own, cs, od, _⟩ := h
  have e0 := cell_later hb (tb.2.2 0 _ rfl)
  have e1 := cell_later hb (tb.2.2 1 _ rfl)
  refine ⟨hg2, by have := tb.1; omega, fun v hv e => ?_, fun v hv e => ?_⟩
  · rw [e0] at hv
    obtain rfl := Option.some.inj hv
    have := (od.lt g e).2
    omega
  · rw [e1] at hv
    obtain rfl := Option.some.inj hv
    have := (own.lt g e).2
    omega
theorem TrS.lt {w : World} {T Bd Bn : Nat} {t : TS} (h : TrS w T Bd Bn t) : T < w.heap.size := by
  obtain ⟨vd, p, n, c, tb, _⟩ := h
  exact tb.1
theorem crv_cases {N B : Nat} {e : Ending} {W : World} {X Y : Nat → Int} (h : (N = 0 ∧ e = .returned (.tuple #[.slice none 0 0, .int .i64 4])) ∨ ∃ v, e = .returned (.tuple #[v, .int .i64 0]) ∧ RdP B W v N X Y) :
    ∃ v z, e = .returned (.tuple #[v, .int .i64 z]) ∧ ((N = 0 ∧ v = .slice none 0 0) ∨ RdP B W v N X Y) := by
  rcases h with ⟨hz, rfl⟩ | ⟨v, rfl, hr⟩
  · exact ⟨_, _, rfl, Or.inl ⟨hz, rfl⟩⟩
  · exact ⟨_, _, rfl, Or.inr hr⟩
def AddPost (T Bd Bn : Nat) (t : TS) (w : World) (e : Ending) (w' : World) : Prop := e = .returned (.tuple #[]) ∧ TrS w' T Bd Bn t ∧ Frm w w' T
set_option maxRecDepth 100000 in
set_option maxHeartbeats 6400000 in
theorem curve3_any (T Bd Bn : Nat) (t : TS) (x1 x2 x3 x4 x5 x6 : Int) (X Y : Nat → Int) (N : Nat) (w : World) (hN : N ≤ 32) (hl : t.now.length ≤ 90000) (hT : TrS w T Bd Bn t)
    (hQ : ∀ W, Calls Try.prog 46 #[.agg #[.int .i64 t.pos.1, .int .i64 t.pos.2], .agg #[.int .i64 x1, .int .i64 x2], .agg #[.int .i64 x3, .int .i64 x4]] W (fun e W' => Below W.heap.size W W' ∧ ((N = 0 ∧ e = .returned (.tuple #[.slice none 0 0, .int .i64 4])) ∨ ∃ v, e = .returned (.tuple #[v, .int .i64 0]) ∧ RdP W.heap.size W' v N X Y))) :
    Calls Try.prog 36 #[.pointer (some ⟨T, 0, none⟩), .agg #[.int .i64 3, .int .i64 x1, .int .i64 x2, .int .i64 x3, .int .i64 x4, .int .i64 x5, .int .i64 x6]] w (AddPost T Bd Bn (t.adds X Y N) w) := by
  obtain ⟨p1, hp1⟩ : ∃ p1, p1 = t.pos.1 := ⟨_, rfl⟩
  obtain ⟨p2, hp2⟩ : ∃ p2, p2 = t.pos.2 := ⟨_, rfl⟩
  rw [← hp1, ← hp2] at hQ
  have QA := Lib.hid hQ
  obtain ⟨w0, hw0⟩ : ∃ w0, w.alloc (.cells #[.int .i64 3, .int .i64 x1, .int .i64 x2, .int .i64 x3, .int .i64 x4, .int .i64 x5, .int .i64 x6] 59) = w0 := ⟨_, rfl⟩
  have A0 : Hid (BxAt w0 w.heap.size [.int .i64 3, .int .i64 x1, .int .i64 x2, .int .i64 x3, .int .i64 x4, .int .i64 x5, .int .i64 x6]) := Lib.hid (by rw [← hw0]; exact BxAt.new w _ _)
  have B0 : Hid (Below w.heap.size w w0) := Lib.hid (by rw [← hw0]; exact below_alloc _ _)
  have HT := Lib.hid (hT.later B0.out)
  have zT0 := hT.lt
  obtain ⟨vd, pn, nn, cn, tb, _⟩ := HT.out
  rw [← hp1, ← hp2] at tb
  have TB := Lib.hid tb
  have i0 := A0.out.2.2 0 _ rfl
  have zT := tb.1
  clear tb hT hQ hp1 hp2
  go_enter Try.func36, Try.ntmps36
  go_wp2_with fail
  clear hw0 i0
  have hT := TB.out.2.2
  have hA := A0.out.2.2
  have k : Below w0.heap.size w0 w0 := Below.refl _ _
  go_region_held3 (fun w' => w'.cell? ⟨T, 2, none⟩ = some (.int .i64 p1) ∧ w'.cell? ⟨T, 3, none⟩ = some (.int .i64 p2) ∧ w'.cell? ⟨w.heap.size, 1, none⟩ = some (.int .i64 x1) ∧ w'.cell? ⟨w.heap.size, 2, none⟩ = some (.int .i64 x2) ∧ w'.cell? ⟨w.heap.size, 3, none⟩ = some (.int .i64 x3) ∧ w'.cell? ⟨w.heap.size, 4, none⟩ = some (.int .i64 x4))
    (exact ⟨hT 2 _ rfl, hT 3 _ rfl, hA 1 _ rfl, hA 2 _ rfl, hA 3 _ rfl, hA 4 _ rfl⟩)
    (first
      | (go_at_call 46; (with_reducible refine (QA.out _).mono ?_); rintro e1 w1 ⟨hb, hc⟩; have k : Below w0.heap.size w0 w1 := bel_drew hb; have hT := (TB.out.later k).2.2; have hA := (A0.out.later k).2.2; obtain ⟨v, z, rfl, hv⟩ := crv_cases hc))
  obtain ⟨a, c, rfl, ha⟩ : ∃ a c, v = .slice a N c ∧ (0 < N → ∃ g off, a = some ⟨g, off, none⟩ ∧ Fre w1 T g ∧ PtAt w1 g off N X Y) := by
    rcases hv with ⟨h0, rfl⟩ | ⟨g, off, c, rfl, hg, hg2, hp⟩
    · exact ⟨none, 0, by rw [h0], fun h => by omega⟩
    · exact ⟨_, c, rfl, fun _ => ⟨g, off, rfl, HT.out.fre k hg hg2, hp⟩⟩
  have HA := Lib.hid ha
  have K1 := Lib.hid k
  clear ha hv hT hA k hc
  go_wp2_with fail
  refine (add_any T Bd Bn t a N c X Y w1 (by omega) (HT.out.later K1.out) HA.out).mono ?_
  rintro e2 w2 ⟨rfl, ht2, hf2⟩
  have T2 := Lib.hid ht2
  have F2 := Lib.hid hf2
  clear ht2 hf2
  go_wp2_with fail
  exact bodyPost_end (results_none rfl _ _ _) rfl ⟨rfl, T2.out, (Frm.of_below zT0 (bthen B0.out K1.out)).trans F2.out⟩
set_option maxRecDepth 100000 in
set_option maxHeartbeats 6400000 in
theorem curve4_any (T Bd Bn : Nat) (t : TS) (x1 x2 x3 x4 x5 x6 : Int) (X Y : Nat → Int) (N : Nat) (w : World) (hN : N ≤ 32) (hl : t.now.length ≤ 90000) (hT : TrS w T Bd Bn t)
    (hQ : ∀ W, Calls Try.prog 47 #[.agg #[.int .i64 t.pos.1, .int .i64 t.pos.2], .agg #[.int .i64 x1, .int .i64 x2], .agg #[.int .i64 x3, .int .i64 x4], .agg #[.int .i64 x5, .int .i64 x6]] W (fun e W' => Below W.heap.size W W' ∧ ((N = 0 ∧ e = .returned (.tuple #[.slice none 0 0, .int .i64 4])) ∨ ∃ v, e = .returned (.tuple #[v, .int .i64 0]) ∧ RdP W.heap.size W' v N X Y))) :
    Calls Try.prog 36 #[.pointer (some ⟨T, 0, none⟩), .agg #[.int .i64 4, .int .i64 x1, .int .i64 x2, .int .i64 x3, .int .i64 x4, .int .i64 x5, .int .i64 x6]] w (AddPost T Bd Bn (t.adds X Y N) w) := by
  obtain ⟨p1, hp1⟩ : ∃ p1, p1 = t.pos.1 := ⟨_, rfl⟩
  obtain ⟨p2, hp2⟩ : ∃ p2, p2 = t.pos.2 := ⟨_, rfl⟩
  rw [← hp1, ← hp2] at hQ
  have QA := Lib.hid hQ
  obtain ⟨w0, hw0⟩ : ∃ w0, w.alloc (.cells #[.int .i64 4, .int .i64 x1, .int .i64 x2, .int .i64 x3, .int .i64 x4, .int .i64 x5, .int .i64 x6] 59) = w0 := ⟨_, rfl⟩
  have A0 : Hid (BxAt w0 w.heap.size [.int .i64 4, .int .i64 x1, .int .i64 x2, .int .i64 x3, .int .i64 x4, .int .i64 x5, .int .i64 x6]) := Lib.hid (by rw [← hw0]; exact BxAt.new w _ _)
  have B0 : Hid (Below w.heap.size w w0) := Lib.hid (by rw [← hw0]; exact below_alloc _ _)
  have HT := Lib.hid (hT.later B0.out)
  have zT0 := hT.lt
  obtain ⟨vd, pn, nn, cn, tb, _⟩ := HT.out
  rw [← hp1, ← hp2] at tb
  have TB := Lib.hid tb
  have i0 := A0.out.2.2 0 _ rfl
  have zT := tb.1
  clear tb hT hQ hp1 hp2
  go_enter Try.func36, Try.ntmps36
  go_wp2_with fail
  clear hw0 i0
  have hT := TB.out.2.2
  have hA := A0.out.2.2
  have k : Below w0.heap.size w0 w0 := Below.refl _ _
  go_region_held3 (fun w' => w'.cell? ⟨T, 2, none⟩ = some (.int .i64 p1) ∧ w'.cell? ⟨T, 3, none⟩ = some (.int .i64 p2) ∧ w'.cell? ⟨w.heap.size, 1, none⟩ = some (.int .i64 x1) ∧ w'.cell? ⟨w.heap.size, 2, none⟩ = some (.int .i64 x2) ∧ w'.cell? ⟨w.heap.size, 3, none⟩ = some (.int .i64 x3) ∧ w'.cell? ⟨w.heap.size, 4, none⟩ = some (.int .i64 x4) ∧ w'.cell? ⟨w.heap.size, 5, none⟩ = some (.int .i64 x5) ∧ w'.cell? ⟨w.heap.size, 6, none⟩ = some (.int .i64 x6))
    (exact ⟨hT 2 _ rfl, hT 3 _ rfl, hA 1 _ rfl, hA 2 _ rfl, hA 3 _ rfl, hA 4 _ rfl, hA 5 _ rfl, hA 6 _ rfl⟩)
    (first
      | (go_at_call 47; (with_reducible refine (QA.out _).mono ?_); rintro e1 w1 ⟨hb, hc⟩; have k : Below w0.heap.size w0 w1 := bel_drew hb; have hT := (TB.out.later k).2.2; have hA := (A0.out.later k).2.2; obtain ⟨v, z, rfl, hv⟩ := crv_cases hc))
  obtain ⟨a, c, rfl, ha⟩ : ∃ a c, v = .slice a N c ∧ (0 < N → ∃ g off, a = some ⟨g, off, none⟩ ∧ Fre w1 T g ∧ PtAt w1 g off N X Y) := by
    rcases hv with ⟨h0, rfl⟩ | ⟨g, off, c, rfl, hg, hg2, hp⟩
    · exact ⟨none, 0, by rw [h0], fun h => by omega⟩
    · exact ⟨_, c, rfl, fun _ => ⟨g, off, rfl, HT.out.fre k hg hg2, hp⟩⟩
  have HA := Lib.hid ha
  have K1 := Lib.hid k
  clear ha hv hT hA k hc
  go_wp2_with fail
  refine (add_any T Bd Bn t a N c X Y w1 (by omega) (HT.out.later K1.out) HA.out).mono ?_
  rintro e2 w2 ⟨rfl, ht2, hf2⟩
  have T2 := Lib.hid ht2
  have F2 := Lib.hid hf2
  clear ht2 hf2
  go_wp2_with fail
  exact bodyPost_end (results_none rfl _ _ _) rfl ⟨rfl, T2.out, (Frm.of_below zT0 (bthen B0.out K1.out)).trans F2.out⟩
end Go.Proofs.Ythglgempbdaikaa
