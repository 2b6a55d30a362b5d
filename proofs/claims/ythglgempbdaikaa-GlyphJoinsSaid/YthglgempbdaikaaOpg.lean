/- How a slice of glyphs, and a text, read. -/
import Derived.Test.YthglgempbdaikaaOpw
import Derived.Test.YthglgempbdaikaaGj6
import Derived.SizedLaws
namespace Go.Proofs.Ythglgempbdaikaa
open Go.ChangeShapes Go.WideShapes Go.ChangeAt Go.RowKit Go.Deep

section
variable {H : Type} {enc : TypeId × Value → H} {w : World} {base : Nat} {spare : Nat → Bool} {held : Bool} {fuel : Nat} {cs : List Value} {x : DataW H × List MemPlace}
theorem cells59 : Try.prog.cellsOf 59 = 7 := by kernel_rfl
theorem cells78 : Try.prog.cellsOf 78 = 3 := by kernel_rfl
theorem cells48 : Try.prog.cellsOf 48 = 4 := by kernel_rfl
theorem cells57 : Try.prog.cellsOf 57 = 3 * Try.prog.cellsOf 42 := by kernel_rfl
theorem bytes59 : Try.prog.bytesOf 59 = 56 := by kernel_rfl
theorem bytes78 : Try.prog.bytesOf 78 = 40 := by kernel_rfl
theorem len42 (h : DataW.trod enc Try.prog w base spare held fuel 42 cs = some x) : cs.length = Try.prog.cellsOf 42 := by
  obtain ⟨xs, n, _, _, hl, _⟩ := DataW.trod_struct Try.underlying42 h
  exact hl
theorem allI_a3p (h : DataW.trod enc Try.prog w base spare held fuel 57 cs = some x) : AllI cs := by
  refine allI_array (n := 3) (e := 42) Try.underlying57 ?_ cells57 (by rw [cells42]; omega) h
  intro fuel cs x h
  exact ⟨allI_pt h, len42 h⟩
set_option maxRecDepth 100000 in
theorem allI_step (h : DataW.trod enc Try.prog w base spare held fuel 59 cs = some x) : AllI cs := by
  obtain ⟨xs, n, _, hx, hl, hxs, hall⟩ := DataW.trod_struct Try.underlying59 h
  rw [cells59] at hl
  obtain ⟨c0, c1, c2, c3, c4, c5, c6, rfl⟩ : ∃ c0 c1 c2 c3 c4 c5 c6, cs = [c0, c1, c2, c3, c4, c5, c6] := by
    match cs, hl with
    | [c0, c1, c2, c3, c4, c5, c6], _ => exact ⟨c0, c1, c2, c3, c4, c5, c6, rfl⟩
  have e0 := hall 0 _ rfl
  have e1 := hall 1 _ rfl
  have hs : xs.length = 2 := hxs
  obtain ⟨x0, x1, rfl⟩ : ∃ x0 x1, xs = [x0, x1] := by
    match xs, hs with
    | [x0, x1], _ => exact ⟨x0, x1, rfl⟩
  have e0 : DataW.trod enc Try.prog w base spare held n 3 [c0] = some x0 := e0
  have e1 : DataW.trod enc Try.prog w base spare held n 57 [c1, c2, c3, c4, c5, c6] = some x1 := e1
  have a0 := allI_int Try.underlying3 e0
  have a1 := allI_a3p e1
  intro i hi
  match i, hi with
  | 0, hi => exact a0 0 (by simp)
  | i + 1, hi => exact a1 i (by simp at hi ⊢; omega)
/-- a slice of steps -/
theorem steps_open {v : Value} (hB : ∀ n ∈ x.1.weights Try.prog 28, n ≤ reachBytes) (h : DataW.trod enc Try.prog w base spare held fuel 28 [v] = some x) : ∃ p n c F, v = .slice p n c ∧ Sts w (.slice p n c) n F := by
  rcases open_slice Try.underlying28 h with ⟨hcs, rfl⟩ | ⟨a, len, cap, m, n, D, Pl, hcs, hb, hl, hm, hmm, hx, hi⟩
  · obtain rfl : v = .slice none 0 0 := by simpa using hcs
    exact ⟨none, 0, 0, fun _ _ => 0, rfl, none, 0, rfl, by omega, fun h => by omega⟩
  · obtain rfl : v = .slice (some a) len cap := by simpa using hcs
    obtain ⟨hlen, F, hF⟩ := slice_rows (s := 7) Try.underlying28 cells59 (by omega) allI_step h
    have hml : len ≤ 281474976710656 := by
      have hw := hB ((((List.range len).map D).length + ((List.range (m - len)).map (fun i => D (len + i))).length) * Try.prog.bytesOf 59) (by
        rw [hx]
        simp only [DataW.weights, Try.underlying28]
        simp)
      rw [bytes59] at hw
      simp only [List.length_map, List.length_range, reachBytes] at hw
      omega
    refine ⟨some a, len, cap, F, rfl, some a, cap, rfl, hml, fun h0 => ?_⟩
    obtain ⟨b, off, ha, _, _⟩ := hF 0 h0
    refine ⟨b, off, ha, fun k hk t ht => ?_⟩
    obtain ⟨b2, off2, ha2, _, hr⟩ := hF k hk
    rw [ha] at ha2
    simp only [Option.some.injEq, Addr.mk.injEq] at ha2
    obtain ⟨rfl, rfl, _⟩ := ha2
    exact hr t ht
theorem weights_all {P : Program} {e : TypeId} {l : List (DataW H)} {d : DataW H} (h : d ∈ l) : ∀ n ∈ d.weights P e, n ∈ DataW.weightsAll P e l := by
  induction l with
  | nil => cases h
  | cons y r ih =>
    intro n hn
    simp only [DataW.weightsAll, List.mem_append]
    cases List.mem_cons.1 h with
    | inl e => subst e; exact Or.inl hn
    | inr e => exact Or.inr (ih e n hn)
set_option maxRecDepth 100000 in
/-- one glyph's cells -/
theorem glyph_open (hB : ∀ n ∈ x.1.weights Try.prog 78, n ≤ reachBytes) (h : DataW.trod enc Try.prog w base spare held fuel 78 cs = some x) : ∃ (g : Gl) (p : Option Addr) (c : Nat), cs = [.int .i64 g.code, .int .i64 g.adv, .slice p g.n c] ∧ Sts w (.slice p g.n c) g.n g.F := by
  obtain ⟨xs, n, _, hx, hl, hxs, hall⟩ := DataW.trod_struct Try.underlying78 h
  rw [cells78] at hl
  obtain ⟨c0, c1, c2, rfl⟩ : ∃ c0 c1 c2, cs = [c0, c1, c2] := by
    match cs, hl with
    | [c0, c1, c2], _ => exact ⟨c0, c1, c2, rfl⟩
  have e0 := hall 0 _ rfl
  have e1 := hall 1 _ rfl
  have e2 := hall 2 _ rfl
  have hs : xs.length = 3 := hxs
  obtain ⟨x0, x1, x2, rfl⟩ : ∃ x0 x1 x2, xs = [x0, x1, x2] := by
    match xs, hs with
    | [x0, x1, x2], _ => exact ⟨x0, x1, x2, rfl⟩
  have e0 : DataW.trod enc Try.prog w base spare held n 3 [c0] = some x0 := e0
  have e1 : DataW.trod enc Try.prog w base spare held n 3 [c1] = some x1 := e1
  have e2 : DataW.trod enc Try.prog w base spare held n 28 [c2] = some x2 := e2
  obtain ⟨code, h0, _⟩ := DataW.trod_int Try.underlying3 e0
  obtain ⟨adv, h1, _⟩ := DataW.trod_int Try.underlying3 e1
  obtain rfl : c0 = .int .i64 code := by simpa using h0
  obtain rfl : c1 = .int .i64 adv := by simpa using h1
  have hB2 : ∀ n ∈ x2.1.weights Try.prog 28, n ≤ reachBytes := fun k hk => hB k (by
    rw [hx]
    simp only [List.map, DataW.weights, Try.underlying78]
    exact DataW.weights_mem_each (j := 2) (t := 28) rfl rfl k hk)
  obtain ⟨p, k, c, F, rfl, hst⟩ := steps_open hB2 e2
  exact ⟨⟨code, adv, k, F⟩, p, c, rfl, hst⟩
set_option maxRecDepth 100000 in
/-- a slice of glyphs -/
theorem font_open {a : Option Addr} {len cap : Nat} (hB : ∀ n ∈ x.1.weights Try.prog 46, n ≤ reachBytes) (h : DataW.trod enc Try.prog w base spare held fuel 46 [.slice a len cap] = some x) : ∃ G : Nat → Gl, FontV w (.slice a len cap) len G := by
  rcases open_slice Try.underlying46 h with ⟨hcs, rfl⟩ | ⟨a', len', cap', m, n, D, Pl, hcs, hb, hl, hm, hmm, hx, hi⟩
  · simp at hcs
    obtain ⟨rfl, rfl, rfl⟩ := hcs
    exact ⟨fun _ => ⟨0, 0, 0, fun _ _ => 0⟩, none, 0, rfl, by simp, fun h => by simp at h⟩
  · simp at hcs
    obtain ⟨rfl, rfl, rfl⟩ := hcs
    have hml : len ≤ m := by rw [hmm]; split <;> omega
    have hbig : len ≤ 281474976710656 := by
      have hw := hB ((((List.range len).map D).length + ((List.range (m - len)).map (fun i => D (len + i))).length) * Try.prog.bytesOf 78) (by
        rw [hx]
        simp only [DataW.weights, Try.underlying46]
        simp)
      rw [bytes78] at hw
      simp only [List.length_map, List.length_range, reachBytes] at hw
      omega
    have hDj : ∀ j, j < len → ∀ n ∈ (D j).weights Try.prog 78, n ≤ reachBytes := fun j hj n hn => hB n (by
      rw [hx]
      simp only [DataW.weights, Try.underlying46]
      exact List.mem_cons_of_mem _ (List.mem_append_left _ (weights_all (List.mem_map_of_mem (List.mem_range.2 hj)) n hn)))
    have key : ∀ j, ∃ q : Gl, j < len → ∃ p c, w.cell? (a'.add (j * 3)) = some (.int .i64 q.code) ∧ w.cell? (a'.add (j * 3 + 1)) = some (.int .i64 q.adv) ∧ w.cell? (a'.add (j * 3 + 2)) = some (.slice p q.n c) ∧ Sts w (.slice p q.n c) q.n q.F := fun j => by
      by_cases hj : j < len
      · obtain ⟨cs', hc, ht'⟩ := hi j (by omega)
        rw [cells78] at hc
        obtain ⟨_, hcl, hat⟩ := World.cells?_some hc
        obtain ⟨g, p, c, rfl, hst⟩ := glyph_open (hDj j hj) ht'
        have h0 := hat 0 (by omega)
        have h1 := hat 1 (by omega)
        have h2 := hat 2 (by omega)
        rw [Go.Deep.add_add] at h0 h1 h2
        exact ⟨g, fun _ => ⟨p, c, h0, h1, h2, hst⟩⟩
      · exact ⟨⟨0, 0, 0, fun _ _ => 0⟩, fun h => absurd h hj⟩
    refine ⟨fun j => (key j).choose, some a', cap, rfl, hbig, fun h0 => ?_⟩
    have hsp : a'.spot = none := by
      obtain ⟨p, c, h1, _⟩ := (key 0).choose_spec h0
      exact spot_none (show w.cell? (a'.add 0) = _ from h1)
    refine ⟨a'.block, a'.off, by obtain ⟨b, o, sp⟩ := a'; simp at hsp; subst hsp; rfl, fun j hj => ?_⟩
    obtain ⟨p, c, h1, h2, h3, h4⟩ := (key j).choose_spec hj
    have e1 := (add_none h1).1
    have e2 := (add_none h2).1
    have e3 := (add_none h3).1
    rw [← Nat.add_assoc] at e2 e3
    exact ⟨p, c, e1, e2, e3, h4⟩
set_option maxRecDepth 100000 in
/-- a text -/
theorem text_open (hB : ∀ n ∈ x.1.weights Try.prog 48, n ≤ reachBytes) (h : DataW.trod enc Try.prog w base spare held fuel 48 cs = some x) : ∃ (s : ByteArray) (e : SE), cs = [.string s, .int .i64 e.size, .int .i64 e.ax, .int .i64 e.ay] ∧ s.size ≤ reachBytes := by
  obtain ⟨xs, n, _, hx, hl, hxs, hall⟩ := DataW.trod_struct Try.underlying48 h
  rw [cells48] at hl
  obtain ⟨c0, c1, c2, c3, rfl⟩ : ∃ c0 c1 c2 c3, cs = [c0, c1, c2, c3] := by
    match cs, hl with
    | [c0, c1, c2, c3], _ => exact ⟨c0, c1, c2, c3, rfl⟩
  have e0 := hall 0 _ rfl
  have e1 := hall 1 _ rfl
  have e2 := hall 2 _ rfl
  have hs : xs.length = 3 := hxs
  obtain ⟨x0, x1, x2, rfl⟩ : ∃ x0 x1 x2, xs = [x0, x1, x2] := by
    match xs, hs with
    | [x0, x1, x2], _ => exact ⟨x0, x1, x2, rfl⟩
  have e0 : DataW.trod enc Try.prog w base spare held n 9 [c0] = some x0 := e0
  have e1 : DataW.trod enc Try.prog w base spare held n 3 [c1] = some x1 := e1
  have e2 : DataW.trod enc Try.prog w base spare held n 42 [c2, c3] = some x2 := e2
  obtain ⟨s, h0, hx0, _⟩ := DataW.trod_string Try.underlying9 e0
  obtain ⟨size, h1, _⟩ := DataW.trod_int Try.underlying3 e1
  have ai := allI_pt e2
  obtain ⟨ax, h2, _⟩ := ai 0 (by simp)
  obtain ⟨ay, h3, _⟩ := ai 1 (by simp)
  simp at h2 h3
  obtain rfl : c0 = .string s := by simpa using h0
  obtain rfl : c1 = .int .i64 size := by simpa using h1
  subst h2 h3
  refine ⟨s, ⟨size, ax, ay⟩, rfl, ?_⟩
  have hw := hB s.data.toList.length (by
    rw [hx]
    simp only [List.map, DataW.weights, Try.underlying48]
    exact DataW.weights_mem_each (j := 0) (t := 9) rfl rfl _ (by rw [hx0]; simp [DataW.weights]))
  rw [Array.length_toList] at hw
  exact hw
end
end Go.Proofs.Ythglgempbdaikaa
