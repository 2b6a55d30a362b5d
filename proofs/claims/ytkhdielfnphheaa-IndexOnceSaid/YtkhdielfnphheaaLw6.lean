/- The walk of IndexNone. -/
import Derived.Test.YtkhdielfnphheaaAsk2
import Derived.Test.YtkhdielfnphheaaAsk3
import Derived.Test.YtkhdielfnphheaaLiv
import Derived.Test.YtkhdielfnphheaaSam
namespace Go.Proofs.Ytkhdielfnphheaa
open Go.RowKit

/-- a whole row is read out of a variable, under a guard that holds -/
theorem wpList_load_rowg {P : Program} {ops : Array Oper} {rest : List Oper} {o : Oper} {a : Act} {w : World} {Q : Exit → Act → World → Prop} (hw : Region.wanted o (yielded ops a.tmps) = true) (ty : TypeId) (x : Operand) (ho : o.op = .load ty x)
    (g : Nat) (hx : a.eval x = .pointer (some ⟨g, 0, none⟩)) (t : TypeId) (cs : Array Value) (fr : Nat × Nat) (d : TypeDesc) (hg : w.heap[g]? = some (.cells cs t fr))
    (hu : P.underlying ty = some d) (hd : (match d with | .struct _ | .array _ _ => true | _ => false) = true) (hi : (P.info? ty).map (·.size) = some cs.size)
    (h : wpList P ops Q rest (a.put o.dst (.agg cs)) w) : wpList P ops Q (o :: rest) a w :=
  wpList_step fun _ hK => by rw [if_pos hw]; exact wp_load_row ty x ho g hx t cs fr d hg hu hd hi (hK _ _ h)
theorem Try.struct58 : ∃ l, Try.prog.underlying 58 = some (.struct l) := struct_of (by kernel_rfl)
set_option maxRecDepth 100000 in
set_option maxHeartbeats 6400000 in
theorem none_any (id : Int) (pl : Bool) (k0 k1 k2 k3 x op : Int) (w : World) :
    Calls Try.prog 6 #[.int .i64 id, .agg #[.bool pl, .int .u8 k0, .int .u8 k1, .int .u8 k2, .int .u8 k3, .int .i64 x, .int .i64 op]] w (RetPost (.bool true) w) := by
  obtain ⟨w1, hw1⟩ : ∃ w1, w1 = w.alloc (.cells #[.bool pl, .int .u8 k0, .int .u8 k1, .int .u8 k2, .int .u8 k3, .int .i64 x, .int .i64 op] 33) := ⟨_, rfl⟩
  have B1 : Hid (Below w.heap.size w w1) := Lib.hid (by rw [hw1]; exact below_alloc _ _)
  have Y1 : Hid (BxAt w1 w.heap.size [.bool pl, .int .u8 k0, .int .u8 k1, .int .u8 k2, .int .u8 k3, .int .i64 x, .int .i64 op]) := Lib.hid (by rw [hw1]; exact BxAt.new w _ _)
  have HW := Lib.hid hw1
  clear hw1
  go_enter Try.func6, Try.ntmps6
  go_wp2_with fail
  rw [← HW.out]
  refine (ramp_none id w1).mono ?_
  rintro e w2 ⟨rfl, hb2⟩
  have B2 := Lib.hid (bthen B1.out hb2)
  have Y2 := Lib.hid (Y1.out.later hb2)
  clear hb2
  go_upto_region 3 with (fail)
  obtain ⟨A, hA⟩ : ∃ A, A = w2.heap.size := ⟨_, rfl⟩
  obtain ⟨w3, hw3⟩ : ∃ w3, w3 = w2.alloc (.cells rampZ.toArray 58) := ⟨_, rfl⟩
  have R3 : Hid (w3.heap[A]? = some (.cells rampZ.toArray 58 (0, 0))) := Lib.hid (by rw [hw3, hA]; exact heap_alloc_new w2 _)
  have b3 : Below w2.heap.size w2 w3 := by rw [hw3]; exact below_alloc _ _
  have B3 := Lib.hid (bthen B2.out b3)
  have Y3 := Lib.hid (Y2.out.later b3)
  have RA : Hid (A < w3.heap.size) := Lib.hid (by rw [hw3, hA]; simp)
  rw [← hw3, ← hA]
  clear hw3 hA b3
  go_wp2_with fail
  refine (pic_none id w3).mono ?_
  rintro e w4 ⟨rfl, hb4⟩
  have R4 : Hid (w4.heap[A]? = some (.cells rampZ.toArray 58 (0, 0))) := Lib.hid ((hb4.block A RA.out).trans R3.out)
  have B4 := Lib.hid (bthen B3.out hb4)
  have Y4 := Lib.hid (Y3.out.later hb4)
  have RA4 : Hid (A < w4.heap.size) := Lib.hid (Nat.lt_of_lt_of_le RA.out hb4.size)
  clear hb4
  go_upto_region 4 with (fail)
  obtain ⟨P, hP⟩ : ∃ P, P = w4.heap.size := ⟨_, rfl⟩
  obtain ⟨w5, hw5⟩ : ∃ w5, w5 = w4.alloc (.cells three.toArray 38) := ⟨_, rfl⟩
  have b5 : Below w4.heap.size w4 w5 := by rw [hw5]; exact below_alloc _ _
  have R5 : Hid (w5.heap[A]? = some (.cells rampZ.toArray 58 (0, 0))) := Lib.hid ((b5.block A RA4.out).trans R4.out)
  have P5 : Hid (BxAt w5 P three) := Lib.hid (by rw [hw5, hP]; exact BxAt.new w4 _ _)
  have B5 := Lib.hid (bthen B4.out b5)
  have Y5 := Lib.hid (Y4.out.later b5)
  have RA5 : Hid (A < w5.heap.size) := Lib.hid (Nat.lt_of_lt_of_le RA4.out b5.size)
  rw [← hw5, ← hP]
  clear hw5 hP b5
  go_wp2_with fail
  refine (gly_none id w5).mono ?_
  rintro e w6 ⟨rfl, hb6⟩
  have R6 : Hid (w6.heap[A]? = some (.cells rampZ.toArray 58 (0, 0))) := Lib.hid ((hb6.block A RA5.out).trans R5.out)
  have P6 := Lib.hid (P5.out.later hb6)
  have B6 := Lib.hid (bthen B5.out hb6)
  have Y6 := Lib.hid (Y5.out.later hb6)
  have RA6 : Hid (A < w6.heap.size) := Lib.hid (Nat.lt_of_lt_of_le RA5.out hb6.size)
  clear hb6
  go_upto_region 5 with (fail)
  obtain ⟨G, hG⟩ : ∃ G, G = w6.heap.size := ⟨_, rfl⟩
  obtain ⟨w7, hw7⟩ : ∃ w7, w7 = w6.alloc (.cells three.toArray 66) := ⟨_, rfl⟩
  have b7 : Below w6.heap.size w6 w7 := by rw [hw7]; exact below_alloc _ _
  have R7 : Hid (w7.heap[A]? = some (.cells rampZ.toArray 58 (0, 0))) := Lib.hid ((b7.block A RA6.out).trans R6.out)
  have P7 := Lib.hid (P6.out.later b7)
  have G7 : Hid (BxAt w7 G three) := Lib.hid (by rw [hw7, hG]; exact BxAt.new w6 _ _)
  have B7 := Lib.hid (bthen B6.out b7)
  have Y7 := Lib.hid (Y6.out.later b7)
  have RA7 : Hid (A < w7.heap.size) := Lib.hid (Nat.lt_of_lt_of_le RA6.out b7.size)
  rw [← hw7, ← hG]
  clear hw7 hG b7
  have y0 := Y7.out.2.2 0 _ rfl
  have y1 := Y7.out.2.2 1 _ rfl
  have y2 := Y7.out.2.2 2 _ rfl
  have y3 := Y7.out.2.2 3 _ rfl
  have y4 := Y7.out.2.2 4 _ rfl
  have y5 := Y7.out.2.2 5 _ rfl
  have y6 := Y7.out.2.2 6 _ rfl
  go_wp2_with fail
  refine (paintx_none pl k0 k1 k2 k3 x op w7).mono ?_
  rintro e w8 ⟨rfl, hb8⟩
  have R8 : Hid (w8.heap[A]? = some (.cells rampZ.toArray 58 (0, 0))) := Lib.hid ((hb8.block A RA7.out).trans R7.out)
  have P8 := Lib.hid (P7.out.later hb8)
  have G8 := Lib.hid (G7.out.later hb8)
  have B8 := Lib.hid (bthen B7.out hb8)
  have RA8 : Hid (A < w8.heap.size) := Lib.hid (Nat.lt_of_lt_of_le RA7.out hb8.size)
  clear hb8 y0 y1 y2 y3 y4 y5 y6
  as_aux_lemma =>
  obtain ⟨Q, hQ⟩ : ∃ Q, Q = w8.heap.size := ⟨_, rfl⟩
  have HQ := Lib.hid hQ
  clear hQ
  go_upto_region 6 with (refine wpList_store_row (o := ⟨none, Op.store 40 (.tmp 12) (.tmp 36), _, _, _, _⟩) (w := w8.alloc (.cells paintZ 40)) rfl 40 (.tmp 12) (.tmp 36) rfl w8.heap.size paintZ rfl rfl 40 paintZ (heap_alloc_new w8 _) Try.size40 rfl (paintL_one _ _ _ _ _ _ _ _ _ _ _ _ _ _) ?_)
  obtain ⟨w9, hw9⟩ : ∃ w9, w9 = (w8.alloc (.cells paintZ 40)).setRow w8.heap.size paintZ := ⟨_, rfl⟩
  have b9 : Below w8.heap.size w8 w9 := by rw [hw9]; exact below_setRow (below_alloc _ _) (Nat.le_refl _) _
  have Q9 : Hid (w9.heap[Q]? = some (.cells paintZ 40 (0, 0))) := Lib.hid (by rw [hw9, HQ.out]; exact setRow_heap _ _ _ _ _ _ (heap_alloc_new w8 _))
  have QL : Hid (Q < w9.heap.size) := Lib.hid (Array.getElem?_eq_some_iff.1 Q9.out).1
  have R9 : Hid (w9.heap[A]? = some (.cells rampZ.toArray 58 (0, 0))) := Lib.hid ((b9.block A RA8.out).trans R8.out)
  have P9 := Lib.hid (P8.out.later b9)
  have G9 := Lib.hid (G8.out.later b9)
  have B9 := Lib.hid (bthen B8.out b9)
  rw [← hw9, ← HQ.out]
  clear hw9 b9
  as_aux_lemma =>
  have p0 := P9.out.2.2 0 _ rfl
  have p1 := P9.out.2.2 1 _ rfl
  have p2 := P9.out.2.2 2 _ rfl
  obtain ⟨l58, hs58⟩ := Try.struct58
  have HS58 := Lib.hid hs58
  clear hs58
  go_wp2_with (refine wpList_load_rowg (o := ⟨some 49, Op.load 58 (.tmp 6), _, _, _, _⟩) rfl 58 (.tmp 6) rfl A rfl 58 rampZ.toArray (0, 0) _ R9.out HS58.out rfl Try.size58 ?_)
  as_aux_lemma =>
  refine (rsame22 0 0 none none 0 0 0 (fun _ _ => 0) w9 (Row.nil _ _ _) (Row.nil _ _ _) (by decide)).mono ?_
  rintro e w10 ⟨rfl, hb10⟩
  have Q10 : Hid (w10.heap[Q]? = some (.cells paintZ 40 (0, 0))) := Lib.hid ((hb10.block Q QL.out).trans Q9.out)
  have G10 := Lib.hid (G9.out.later hb10)
  have B10 := Lib.hid (bthen B9.out hb10)
  have g0 := G10.out.2.2 0 _ rfl
  have g2 := G10.out.2.2 2 _ rfl
  obtain ⟨l40, hs40⟩ := Try.struct40
  have HS := Lib.hid hs40
  clear hb10 hs40 p0 p1 p2
  go_wp2_with (refine wpList_load_rowg (o := ⟨some 70, Op.load 40 (.tmp 12), _, _, _, _⟩) rfl 40 (.tmp 12) rfl Q rfl 40 paintZ (0, 0) _ Q10.out HS.out rfl Try.size40 ?_)
  as_aux_lemma =>
  refine (psame10 0 0 0 0 0 0 0 0 0 0 0 0 0 0 w10).mono ?_
  rintro e w11 ⟨rfl, hb11⟩
  have B11 := Lib.hid (bthen B10.out hb11)
  clear hb11 g0 g2
  go_wp2_with fail
  refine (wrong_none w11).mono ?_
  rintro e w12 ⟨rfl, hb12⟩
  have B12 := Lib.hid (bthen B11.out hb12)
  clear hb12
  go_wp2_with fail
  refine (made_none w12).mono ?_
  rintro e w13 ⟨rfl, hb13⟩
  have B13 := Lib.hid (bthen B12.out hb13)
  clear hb13
  go_wp2_with fail
  refine (lives11 w13).mono ?_
  rintro e w14 ⟨rfl, hb14⟩
  have B14 := Lib.hid (bthen B13.out hb14)
  clear hb14
  go_wp2_with fail
  go_ret
  exact ⟨rfl, B14.out⟩
end Go.Proofs.Ytkhdielfnphheaa
