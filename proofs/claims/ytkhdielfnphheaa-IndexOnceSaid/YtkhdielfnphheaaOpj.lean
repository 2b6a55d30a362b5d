/- How a scene's definitions read. -/
import Derived.Test.YtkhdielfnphheaaOpi
namespace Go.Proofs.Ytkhdielfnphheaa
open Go.ChangeShapes Go.WideShapes Go.ChangeAt Go.RowKit Go.Deep

theorem one_at (v : Value) (t : Nat) (h : t < 1) : [v][t]? = some v := by
  obtain rfl : t = 0 := by omega
  rfl
theorem cells38 : Try.prog.cellsOf 38 = 3 := by kernel_rfl
theorem cells3 : Try.prog.cellsOf 3 = 1 := by kernel_rfl
theorem bytes3 : Try.prog.bytesOf 3 = 8 := by kernel_rfl
section
variable {H : Type} {enc : TypeId × Value → H} {w : World} {base : Nat} {spare : Nat → Bool} {held : Bool} {fuel : Nat} {cs : List Value} {x : DataW H × List MemPlace}
set_option maxRecDepth 100000 in
theorem pts_open (h : DataW.trod enc Try.prog w base spare held fuel 97 cs = some x) : ∃ a b c d e f : Int, cs = [.int .i64 a, .int .i64 b, .int .i64 c, .int .i64 d, .int .i64 e, .int .i64 f] := by
  obtain ⟨xs, n, _, _, hl, hxs, hall⟩ := DataW.trod_array Try.underlying97 h
  rw [cells97] at hl
  obtain ⟨c0, c1, c2, c3, c4, c5, rfl⟩ : ∃ c0 c1 c2 c3 c4 c5, cs = [c0, c1, c2, c3, c4, c5] := by
    match cs, hl with
    | [c0, c1, c2, c3, c4, c5], _ => exact ⟨c0, c1, c2, c3, c4, c5, rfl⟩
  have hs : xs.length = 3 := hxs
  obtain ⟨x0, x1, x2, rfl⟩ : ∃ x0 x1 x2, xs = [x0, x1, x2] := by
    match xs, hs with
    | [x0, x1, x2], _ => exact ⟨x0, x1, x2, rfl⟩
  have e0 : DataW.trod enc Try.prog w base spare held n 35 [c0, c1] = some x0 := hall 0 (by omega)
  have e1 : DataW.trod enc Try.prog w base spare held n 35 [c2, c3] = some x1 := hall 1 (by omega)
  have e2 : DataW.trod enc Try.prog w base spare held n 35 [c4, c5] = some x2 := hall 2 (by omega)
  obtain ⟨a, b, h0⟩ := point_open e0
  obtain ⟨c, d, h1⟩ := point_open e1
  obtain ⟨e, f, h2⟩ := point_open e2
  simp at h0 h1 h2
  exact ⟨a, b, c, d, e, f, by rw [h0.1, h0.2, h1.1, h1.2, h2.1, h2.2]⟩
set_option maxRecDepth 100000 in
theorem step_open (h : DataW.trod enc Try.prog w base spare held fuel 99 cs = some x) : ∃ q : Nat → Int, (∀ t, t < 7 → cs[t]? = some (.int .i64 (q t))) ∧ True := by
  obtain ⟨xs, n, _, hx, hl, hxs, hall⟩ := DataW.trod_struct Try.underlying99 h
  rw [cells99] at hl
  obtain ⟨c0, c1, c2, c3, c4, c5, c6, rfl⟩ : ∃ c0 c1 c2 c3 c4 c5 c6, cs = [c0, c1, c2, c3, c4, c5, c6] := by
    match cs, hl with
    | [c0, c1, c2, c3, c4, c5, c6], _ => exact ⟨c0, c1, c2, c3, c4, c5, c6, rfl⟩
  have hs : xs.length = 2 := hxs
  obtain ⟨x0, x1, rfl⟩ : ∃ x0 x1, xs = [x0, x1] := by
    match xs, hs with
    | [x0, x1], _ => exact ⟨x0, x1, rfl⟩
  have e0 : DataW.trod enc Try.prog w base spare held n 3 [c0] = some x0 := hall 0 _ rfl
  have e1 : DataW.trod enc Try.prog w base spare held n 97 [c1, c2, c3, c4, c5, c6] = some x1 := hall 1 _ rfl
  obtain ⟨op, h0, _⟩ := DataW.trod_int Try.underlying3 e0
  obtain ⟨a, b, c, d, e, f, h1⟩ := pts_open e1
  simp at h0 h1
  refine ⟨fun t => if t = 0 then op else if t = 1 then a else if t = 2 then b else if t = 3 then c else if t = 4 then d else if t = 5 then e else f, fun t ht => ?_, trivial⟩
  rw [h0, h1.1, h1.2.1, h1.2.2.1, h1.2.2.2.1, h1.2.2.2.2.1, h1.2.2.2.2.2]
  have ht2 : t = 0 ∨ t = 1 ∨ t = 2 ∨ t = 3 ∨ t = 4 ∨ t = 5 ∨ t = 6 := by omega
  rcases ht2 with rfl | rfl | rfl | rfl | rfl | rfl | rfl <;> rfl
set_option maxRecDepth 100000 in
theorem ramp_open (h : DataW.trod enc Try.prog w base spare held fuel 58 cs = some x) : ∃ q : Nat → Int, (∀ t, t < 15 → cs[t]? = some (if t < 7 then .int .i64 (q t) else .int .u8 (q t))) ∧ True := by
  obtain ⟨xs, n, _, hx, hl, hxs, hall⟩ := DataW.trod_struct Try.underlying58 h
  rw [cells58] at hl
  obtain ⟨c0, c1, c2, c3, c4, c5, c6, c7, c8, c9, c10, c11, c12, c13, c14, rfl⟩ : ∃ c0 c1 c2 c3 c4 c5 c6 c7 c8 c9 c10 c11 c12 c13 c14, cs = [c0, c1, c2, c3, c4, c5, c6, c7, c8, c9, c10, c11, c12, c13, c14] := by
    match cs, hl with
    | [c0, c1, c2, c3, c4, c5, c6, c7, c8, c9, c10, c11, c12, c13, c14], _ => exact ⟨c0, c1, c2, c3, c4, c5, c6, c7, c8, c9, c10, c11, c12, c13, c14, rfl⟩
  have hs : xs.length = 7 := hxs
  obtain ⟨x0, x1, x2, x3, x4, x5, x6, rfl⟩ : ∃ x0 x1 x2 x3 x4 x5 x6, xs = [x0, x1, x2, x3, x4, x5, x6] := by
    match xs, hs with
    | [x0, x1, x2, x3, x4, x5, x6], _ => exact ⟨x0, x1, x2, x3, x4, x5, x6, rfl⟩
  have e0 : DataW.trod enc Try.prog w base spare held n 3 [c0] = some x0 := hall 0 _ rfl
  have e1 : DataW.trod enc Try.prog w base spare held n 3 [c1] = some x1 := hall 1 _ rfl
  have e2 : DataW.trod enc Try.prog w base spare held n 35 [c2, c3] = some x2 := hall 2 _ rfl
  have e3 : DataW.trod enc Try.prog w base spare held n 35 [c4, c5] = some x3 := hall 3 _ rfl
  have e4 : DataW.trod enc Try.prog w base spare held n 3 [c6] = some x4 := hall 4 _ rfl
  have e5 : DataW.trod enc Try.prog w base spare held n 23 [c7, c8, c9, c10] = some x5 := hall 5 _ rfl
  have e6 : DataW.trod enc Try.prog w base spare held n 23 [c11, c12, c13, c14] = some x6 := hall 6 _ rfl
  obtain ⟨a0, h0, _⟩ := DataW.trod_int Try.underlying3 e0
  obtain ⟨a1, h1, _⟩ := DataW.trod_int Try.underlying3 e1
  obtain ⟨a2, a3, h2⟩ := point_open e2
  obtain ⟨a4, a5, h3⟩ := point_open e3
  obtain ⟨a6, h4, _⟩ := DataW.trod_int Try.underlying3 e4
  obtain ⟨a7, a8, a9, a10, h5⟩ := colour_open e5
  obtain ⟨a11, a12, a13, a14, h6⟩ := colour_open e6
  simp at h0 h1 h2 h3 h4 h5 h6
  refine ⟨fun t => if t = 0 then a0 else if t = 1 then a1 else if t = 2 then a2 else if t = 3 then a3 else if t = 4 then a4 else if t = 5 then a5 else if t = 6 then a6 else if t = 7 then a7 else if t = 8 then a8 else if t = 9 then a9 else if t = 10 then a10 else if t = 11 then a11 else if t = 12 then a12 else if t = 13 then a13 else a14, fun t ht => ?_, trivial⟩
  rw [h0, h1, h2.1, h2.2, h3.1, h3.2, h4, h5.1, h5.2.1, h5.2.2.1, h5.2.2.2, h6.1, h6.2.1, h6.2.2.1, h6.2.2.2]
  have ht2 : t = 0 ∨ t = 1 ∨ t = 2 ∨ t = 3 ∨ t = 4 ∨ t = 5 ∨ t = 6 ∨ t = 7 ∨ t = 8 ∨ t = 9 ∨ t = 10 ∨ t = 11 ∨ t = 12 ∨ t = 13 ∨ t = 14 := by omega
  rcases ht2 with rfl | rfl | rfl | rfl | rfl | rfl | rfl | rfl | rfl | rfl | rfl | rfl | rfl | rfl | rfl <;> rfl
theorem pix_open (h : DataW.trod enc Try.prog w base spare held fuel 23 cs = some x) : ∃ q : Nat → Int, (∀ t, t < 4 → cs[t]? = some (.int .u8 (q t))) ∧ True := by
  obtain ⟨a, b, c, d, rfl⟩ := colour_open h
  refine ⟨fun t => if t = 0 then a else if t = 1 then b else if t = 2 then c else d, fun t ht => ?_, trivial⟩
  have ht2 : t = 0 ∨ t = 1 ∨ t = 2 ∨ t = 3 := by omega
  rcases ht2 with rfl | rfl | rfl | rfl <;> rfl
theorem hide_open (h : DataW.trod enc Try.prog w base spare held fuel 94 cs = some x) : ∃ v : Value, (∀ t, t < 1 → cs[t]? = some v) ∧ v.oneCell' = true := by
  rcases open_slice Try.underlying94 h with ⟨hcs, _⟩ | ⟨a', len, cap, m, n, D, Pl, hcs, _⟩
  · exact ⟨_, fun t ht => by rw [hcs]; exact one_at _ t ht, rfl⟩
  · exact ⟨_, fun t ht => by rw [hcs]; exact one_at _ t ht, rfl⟩
def glf (q : Gl × Value) (t : Nat) : Value := if t = 0 then .int .i64 q.1.code else if t = 1 then .int .i64 q.1.adv else q.2
def pif (q : Pi × Value) (t : Nat) : Value := if t = 0 then .int .i64 q.1.id else if t = 1 then .int .i64 q.1.pw else if t = 2 then .int .i64 q.1.ph else q.2
set_option maxRecDepth 100000 in
theorem gly_open (hB : ∀ n ∈ x.1.weights Try.prog 66, n ≤ reachBytes) (h : DataW.trod enc Try.prog w base spare held fuel 66 cs = some x) : ∃ q : Gl × Value, (∀ t, t < 3 → cs[t]? = some (glf q t)) ∧ (Row w q.2 q.1.n 7 (stF q.1.F) ∧ q.1.n * 56 ≤ 140737488355328) := by
  obtain ⟨xs, n, _, hx, hl, hxs, hall⟩ := DataW.trod_struct Try.underlying66 h
  rw [cells66] at hl
  obtain ⟨c0, c1, c2, rfl⟩ : ∃ c0 c1 c2, cs = [c0, c1, c2] := by
    match cs, hl with
    | [c0, c1, c2], _ => exact ⟨c0, c1, c2, rfl⟩
  have hs : xs.length = 3 := hxs
  obtain ⟨x0, x1, x2, rfl⟩ : ∃ x0 x1 x2, xs = [x0, x1, x2] := by
    match xs, hs with
    | [x0, x1, x2], _ => exact ⟨x0, x1, x2, rfl⟩
  have e0 : DataW.trod enc Try.prog w base spare held n 3 [c0] = some x0 := hall 0 _ rfl
  have e1 : DataW.trod enc Try.prog w base spare held n 3 [c1] = some x1 := hall 1 _ rfl
  have e2 : DataW.trod enc Try.prog w base spare held n 64 [c2] = some x2 := hall 2 _ rfl
  obtain ⟨code, h0, _⟩ := DataW.trod_int Try.underlying3 e0
  obtain ⟨adv, h1, _⟩ := DataW.trod_int Try.underlying3 e1
  have hB2 : ∀ n ∈ x2.1.weights Try.prog 64, n ≤ reachBytes := fun k hk => hB k (by
    rw [hx]
    simp only [List.map, DataW.weights, Try.underlying66]
    exact DataW.weights_mem_each (j := 2) (t := 64) rfl rfl k hk)
  obtain ⟨a, len, cap, F, hv, hr, _, hb⟩ := slice_row (fun _ => (0 : Int)) (fun q t => .int .i64 (q t)) (fun _ => True) Try.underlying64 cells99 bytes99 (by omega) (fun _ h => step_open h) hB2 e2
  simp at h0 h1
  refine ⟨(⟨code, adv, len, F⟩, c2), fun t ht => ?_, by rw [hv] at hr ⊢; exact hr, hb⟩
  rw [h0, h1]
  have ht2 : t = 0 ∨ t = 1 ∨ t = 2 := by omega
  rcases ht2 with rfl | rfl | rfl <;> rfl
set_option maxRecDepth 100000 in
theorem ras_open (hB : ∀ n ∈ x.1.weights Try.prog 38, n ≤ reachBytes) (h : DataW.trod enc Try.prog w base spare held fuel 38 cs = some x) : ∃ (a b : Int) (v : Value) (len : Nat) (F : Nat → Nat → Int), cs = [.int .i64 a, .int .i64 b, v] ∧ Row w v len 4 (pxF F) ∧ len * 4 ≤ 140737488355328 := by
  obtain ⟨xs, n, _, hx, hl, hxs, hall⟩ := DataW.trod_struct Try.underlying38 h
  rw [cells38] at hl
  obtain ⟨c0, c1, c2, rfl⟩ : ∃ c0 c1 c2, cs = [c0, c1, c2] := by
    match cs, hl with
    | [c0, c1, c2], _ => exact ⟨c0, c1, c2, rfl⟩
  have hs : xs.length = 3 := hxs
  obtain ⟨x0, x1, x2, rfl⟩ : ∃ x0 x1 x2, xs = [x0, x1, x2] := by
    match xs, hs with
    | [x0, x1, x2], _ => exact ⟨x0, x1, x2, rfl⟩
  have e0 : DataW.trod enc Try.prog w base spare held n 3 [c0] = some x0 := hall 0 _ rfl
  have e1 : DataW.trod enc Try.prog w base spare held n 3 [c1] = some x1 := hall 1 _ rfl
  have e2 : DataW.trod enc Try.prog w base spare held n 36 [c2] = some x2 := hall 2 _ rfl
  obtain ⟨a, h0, _⟩ := DataW.trod_int Try.underlying3 e0
  obtain ⟨b, h1, _⟩ := DataW.trod_int Try.underlying3 e1
  have hB2 : ∀ n ∈ x2.1.weights Try.prog 36, n ≤ reachBytes := fun k hk => hB k (by
    rw [hx]
    simp only [List.map, DataW.weights, Try.underlying38]
    exact DataW.weights_mem_each (j := 2) (t := 36) rfl rfl k hk)
  obtain ⟨a', len, cap, F, hv, hr, _, hb⟩ := slice_row (fun _ => (0 : Int)) (fun q t => .int .u8 (q t)) (fun _ => True) Try.underlying36 cells23 bytes23 (by omega) (fun _ h => pix_open h) hB2 e2
  simp at h0 h1
  exact ⟨a, b, c2, len, F, by rw [h0, h1], by rw [hv] at hr ⊢; exact hr, hb⟩
set_option maxRecDepth 100000 in
theorem pic_open (hB : ∀ n ∈ x.1.weights Try.prog 101, n ≤ reachBytes) (h : DataW.trod enc Try.prog w base spare held fuel 101 cs = some x) : ∃ q : Pi × Value, (∀ t, t < 4 → cs[t]? = some (pif q t)) ∧ (Row w q.2 q.1.n 4 (pxF q.1.px) ∧ q.1.n * 4 ≤ 140737488355328) := by
  obtain ⟨xs, n, _, hx, hl, hxs, hall⟩ := DataW.trod_struct Try.underlying101 h
  rw [cells101] at hl
  obtain ⟨c0, c1, c2, c3, rfl⟩ : ∃ c0 c1 c2 c3, cs = [c0, c1, c2, c3] := by
    match cs, hl with
    | [c0, c1, c2, c3], _ => exact ⟨c0, c1, c2, c3, rfl⟩
  have hs : xs.length = 2 := hxs
  obtain ⟨x0, x1, rfl⟩ : ∃ x0 x1, xs = [x0, x1] := by
    match xs, hs with
    | [x0, x1], _ => exact ⟨x0, x1, rfl⟩
  have e0 : DataW.trod enc Try.prog w base spare held n 3 [c0] = some x0 := hall 0 _ rfl
  have e1 : DataW.trod enc Try.prog w base spare held n 38 [c1, c2, c3] = some x1 := hall 1 _ rfl
  obtain ⟨id, h0, _⟩ := DataW.trod_int Try.underlying3 e0
  have hB2 : ∀ n ∈ x1.1.weights Try.prog 38, n ≤ reachBytes := fun k hk => hB k (by
    rw [hx]
    simp only [List.map, DataW.weights, Try.underlying101]
    exact DataW.weights_mem_each (j := 1) (t := 38) rfl rfl k hk)
  obtain ⟨a, b, v, len, F, h1, hr, hb⟩ := ras_open hB2 e1
  simp at h0 h1
  refine ⟨(⟨id, a, b, len, F⟩, v), fun t ht => ?_, hr, hb⟩
  rw [h0, h1.1, h1.2.1, h1.2.2]
  have ht2 : t = 0 ∨ t = 1 ∨ t = 2 ∨ t = 3 := by omega
  rcases ht2 with rfl | rfl | rfl | rfl <;> rfl
set_option maxRecDepth 100000 in
theorem scene_open (hB : ∀ n ∈ x.1.weights Try.prog 31, n ≤ reachBytes) (h : DataW.trod enc Try.prog w base spare held fuel 31 cs = some x) : ∃ (S : Sc) (u0 u1 u2 u3 u4 u5 u6 hd mt rm gl pc it : Value), cs = [u0, u1, u2, u3, u4, u5, u6, hd, mt, rm, gl, pc, it] ∧ DataV S rm gl pc w ∧ Row w hd S.nh 1 S.H ∧ ScOk S := by
  obtain ⟨xs, n, _, hx, hl, hxs, hall⟩ := DataW.trod_struct Try.underlying31 h
  rw [cells31] at hl
  obtain ⟨c0, c1, c2, c3, c4, c5, c6, c7, c8, c9, c10, c11, c12, rfl⟩ : ∃ c0 c1 c2 c3 c4 c5 c6 c7 c8 c9 c10 c11 c12, cs = [c0, c1, c2, c3, c4, c5, c6, c7, c8, c9, c10, c11, c12] := by
    match cs, hl with
    | [c0, c1, c2, c3, c4, c5, c6, c7, c8, c9, c10, c11, c12], _ => exact ⟨c0, c1, c2, c3, c4, c5, c6, c7, c8, c9, c10, c11, c12, rfl⟩
  have hs : xs.length = 10 := hxs
  obtain ⟨x0, x1, x2, x3, x4, x5, x6, x7, x8, x9, rfl⟩ : ∃ x0 x1 x2 x3 x4 x5 x6 x7 x8 x9, xs = [x0, x1, x2, x3, x4, x5, x6, x7, x8, x9] := by
    match xs, hs with
    | [x0, x1, x2, x3, x4, x5, x6, x7, x8, x9], _ => exact ⟨x0, x1, x2, x3, x4, x5, x6, x7, x8, x9, rfl⟩
  have e4 : DataW.trod enc Try.prog w base spare held n 24 [c7] = some x4 := hall 4 _ rfl
  have e6 : DataW.trod enc Try.prog w base spare held n 26 [c9] = some x6 := hall 6 _ rfl
  have e7 : DataW.trod enc Try.prog w base spare held n 27 [c10] = some x7 := hall 7 _ rfl
  have e8 : DataW.trod enc Try.prog w base spare held n 28 [c11] = some x8 := hall 8 _ rfl
  have hB4 : ∀ n ∈ x4.1.weights Try.prog 24, n ≤ reachBytes := fun k hk => hB k (by
    rw [hx]
    simp only [List.map, DataW.weights, Try.underlying31]
    exact DataW.weights_mem_each (j := 4) (t := 24) rfl rfl k hk)
  have hB6 : ∀ n ∈ x6.1.weights Try.prog 26, n ≤ reachBytes := fun k hk => hB k (by
    rw [hx]
    simp only [List.map, DataW.weights, Try.underlying31]
    exact DataW.weights_mem_each (j := 6) (t := 26) rfl rfl k hk)
  have hB7 : ∀ n ∈ x7.1.weights Try.prog 27, n ≤ reachBytes := fun k hk => hB k (by
    rw [hx]
    simp only [List.map, DataW.weights, Try.underlying31]
    exact DataW.weights_mem_each (j := 7) (t := 27) rfl rfl k hk)
  have hB8 : ∀ n ∈ x8.1.weights Try.prog 28, n ≤ reachBytes := fun k hk => hB k (by
    rw [hx]
    simp only [List.map, DataW.weights, Try.underlying31]
    exact DataW.weights_mem_each (j := 8) (t := 28) rfl rfl k hk)
  obtain ⟨ah, nh, ch, FH, hvh, hrh, hgh, hbh⟩ := slice_row (Value.bool false) (fun q _ => q) (fun v => v.oneCell' = true) Try.underlying24 cells94 bytes94 (by omega) (fun _ h => hide_open h) hB4 e4
  obtain ⟨ar, nr, cr, FR, hvr, hrr, _, hbr⟩ := slice_row (fun _ => (0 : Int)) (fun q t => if t < 7 then .int .i64 (q t) else .int .u8 (q t)) (fun _ => True) Try.underlying26 cells58 bytes58 (by omega) (fun _ h => ramp_open h) hB6 e6
  obtain ⟨ag, ng, cg, FG, hvg, hrg, hgg, hbg⟩ := slice_row ((⟨0, 0, 0, fun _ _ => 0⟩, Value.bool false) : Gl × Value) glf (fun q => Row w q.2 q.1.n 7 (stF q.1.F) ∧ q.1.n * 56 ≤ 140737488355328) Try.underlying27 cells66 bytes66 (by omega) (fun hb h => gly_open hb h) hB7 e7
  obtain ⟨ap, np, cp, FP, hvp, hrp, hgp, hbp⟩ := slice_row ((⟨0, 0, 0, 0, fun _ _ => 0⟩, Value.bool false) : Pi × Value) pif (fun q => Row w q.2 q.1.n 4 (pxF q.1.px) ∧ q.1.n * 4 ≤ 140737488355328) Try.underlying28 cells101 bytes101 (by omega) (fun hb h => pic_open hb h) hB8 e8
  refine ⟨⟨nh, nr, ng, np, fun j _ => FH j, FR, fun j => (FG j).1, fun j => (FP j).1⟩, c0, c1, c2, c3, c4, c5, c6, c7, c8, c9, c10, c11, c12, rfl, ⟨?_, ⟨fun j => (FG j).2, ?_, fun j hj => (hgg j hj).1⟩, ⟨fun j => (FP j).2, ?_, fun j hj => (hgp j hj).1⟩⟩, ?_, ⟨hbh, hbr, hbg, hbp, fun j t hj _ => hgh j hj, fun j hj => (hgg j hj).2, fun j hj => (hgp j hj).2⟩⟩
  · exact hrr
  · exact hrg
  · exact hrp
  · exact hrh
/-- a slice of ints -/
theorem ids_open {a : Option Addr} {len cap : Nat} (hB : ∀ n ∈ x.1.weights Try.prog 55, n ≤ reachBytes) (h : DataW.trod enc Try.prog w base spare held fuel 55 [.slice a len cap] = some x) :
    ∃ F : Nat → Int, Row w (.slice a len cap) len 1 (fun j _ => .int .i64 (F j)) ∧ len * 8 ≤ 140737488355328 := by
  obtain ⟨a', len', cap', F, hv, hr, _, hb⟩ := slice_row (0 : Int) (fun q _ => .int .i64 q) (fun _ => True) Try.underlying55 cells3 bytes3 (by omega) (fun _ h => by
    obtain ⟨n, h0, _⟩ := DataW.trod_int Try.underlying3 h
    exact ⟨n, fun t ht => by rw [h0]; exact one_at _ t ht, trivial⟩) hB h
  obtain ⟨rfl, rfl, rfl⟩ : a = a' ∧ len = len' ∧ cap = cap' := by simpa using hv
  exact ⟨F, hr, hb⟩
end
end Go.Proofs.Ytkhdielfnphheaa
