/- Contract of check: what is wrong first. -/
import Derived.Test.YtkhdielfnphheaaMay2
namespace Go.Proofs.Ytkhdielfnphheaa
open Go.RowKit

def manyS (S : Sc) : Bool := decide (16 < S.nh ∨ 32 < S.nr ∨ 32 < S.ng ∨ 32 < S.np)
/-- what is wrong first, the doubles given -/
def wrongB (S : Sc) (d : Bool) : Int := if manyS S = true then 7 else if d = true then 9 else if mayS S = true then 0 else 2
set_option maxRecDepth 100000 in
set_option maxHeartbeats 6400000 in
theorem icheck_any (S : Sc) (X : Nat) (hd rm gl pc t1 t2 t3 : Value) (b1 b2 b3 : Bool) (dn st md wr : Int) (w : World) (hX : BxAt w X (xcells hd rm gl pc dn st md t1 b1 t2 b2 t3 b3 wr)) (hH : ∃ a c, hd = .slice a S.nh c) (hD : DataV S rm gl pc w) (ok : ScOk S) :
    Calls Try.prog 44 #[.pointer (some ⟨X, 0, none⟩)] w (RetPost (.int .i64 (wrongB S (b1 || (b3 || b2)))) w) := by
  obtain ⟨rp, rc, rfl⟩ : ∃ a c, rm = .slice a S.nr c := hD.1.slice
  obtain ⟨gp, gc, rfl⟩ : ∃ a c, gl = .slice a S.ng c := by obtain ⟨_, h, _⟩ := hD.2.1; exact h.slice
  obtain ⟨pp, pk, rfl⟩ : ∃ a c, pc = .slice a S.np c := by obtain ⟨_, h, _⟩ := hD.2.2; exact h.slice
  obtain ⟨hp, hc, rfl⟩ := hH
  obtain ⟨M, hM⟩ : ∃ M : Int, M = if (S.np : Int) > (if (S.ng : Int) > (S.nr : Int) then (S.ng : Int) else (S.nr : Int)) then (S.np : Int) else (if (S.ng : Int) > (S.nr : Int) then (S.ng : Int) else (S.nr : Int)) := ⟨_, rfl⟩
  have hmax : ∀ (ts : Array TypeId) (t : TypeId) (W : World), (Builtin.max_ ts t #[.int .i64 (S.nr : Int), .int .i64 (S.ng : Int), .int .i64 (S.np : Int)]).run Try.prog W = .ok (.int .i64 M) W := fun ts t W => by rw [hM]; exact run_max_int3 W ts t .i64 .i64 .i64 _ _ _
  have hM1 : Hid (M > 32 ↔ 32 < S.nr ∨ 32 < S.ng ∨ 32 < S.np) := Lib.hid (by
    rw [hM]
    split
    · split at * <;> omega
    · split at * <;> omega)
  obtain ⟨m, hm⟩ : ∃ m, m = wrongB S (b1 || (b3 || b2)) := ⟨_, rfl⟩
  rw [← hm]
  have E : Hid (m = if manyS S = true then 7 else if (b1 || (b3 || b2)) = true then 9 else if mayS S = true then 0 else 2) := Lib.hid hm
  have EM : Hid (manyS S = decide (16 < S.nh ∨ 32 < S.nr ∨ 32 < S.ng ∨ 32 < S.np)) := Lib.hid rfl
  have MY := Lib.hid (fun (W : World) (hb : Below w.heap.size w W) => imay_any S X _ _ _ _ _ W (hX.later hb) rfl rfl rfl (hD.later hb) ok)
  have x0 := hX.2.2 0 _ rfl
  have x1 := hX.2.2 1 _ rfl
  have x2 := hX.2.2 2 _ rfl
  have x3 := hX.2.2 3 _ rfl
  have x4 := hX.2.2 4 _ rfl
  have x5 := hX.2.2 5 _ rfl
  have x6 := hX.2.2 6 _ rfl
  have x7 := hX.2.2 7 _ rfl
  have x8 := hX.2.2 8 _ rfl
  have x9 := hX.2.2 9 _ rfl
  have x10 := hX.2.2 10 _ rfl
  have x11 := hX.2.2 11 _ rfl
  have x12 := hX.2.2 12 _ rfl
  have XX := Lib.hid hX
  have nrb : S.nr ≤ 4000000000000 := by have := ok.br; omega
  have ngb : S.ng ≤ 4000000000000 := by have := ok.bg; omega
  have npb : S.np ≤ 4000000000000 := by have := ok.bp; omega
  have nhb : S.nh ≤ 8000000000000 := by have := ok.bh; omega
  clear hM hm hX hD ok
  go_enter Try.func44, Try.ntmps44
  go_upto_region 2 with (fail)
  have Ba := Lib.hid (below_alloc w (.cells #[.int .i64 0, .int .i64 0, .int .u8 0, .int .u8 0, .int .u8 0, .int .u8 0, .int .i64 0, .slice hp S.nh hc, .slice none 0 0, .slice rp S.nr rc, .slice gp S.ng gc, .slice pp S.np pk, .slice none 0 0] 31))
  have Xa := Lib.hid (BxAt.new w [.int .i64 0, .int .i64 0, .int .u8 0, .int .u8 0, .int .u8 0, .int .u8 0, .int .i64 0, .slice hp S.nh hc, .slice none 0 0, .slice rp S.nr rc, .slice gp S.ng gc, .slice pp S.np pk, .slice none 0 0] 31)
  obtain ⟨wa, hwa⟩ : ∃ wa, wa = w.alloc (.cells #[.int .i64 0, .int .i64 0, .int .u8 0, .int .u8 0, .int .u8 0, .int .u8 0, .int .i64 0, .slice hp S.nh hc, .slice none 0 0, .slice rp S.nr rc, .slice gp S.ng gc, .slice pp S.np pk, .slice none 0 0] 31) := ⟨_, rfl⟩
  rw [← hwa] at Ba Xa ⊢
  clear hwa x0 x1 x2 x3 x4 x5 x6 x7 x8 x9 x10 x11 x12
  have y7 := Xa.out.2.2 7 _ rfl
  have y9 := Xa.out.2.2 9 _ rfl
  have y10 := Xa.out.2.2 10 _ rfl
  have y11 := Xa.out.2.2 11 _ rfl
  by_cases h1 : 16 < S.nh
  · have e : Hid (m = 7) := Lib.hid (by rw [E.out, if_pos (by rw [EM.out]; simp [h1])])
    have h1I : (16 : Int) < (S.nh : Int) := by omega
    have h1J : 16 < S.nh := h1
    go_wp2_with fail
    go_ret
    exact ⟨by rw [e.out]; rfl, Ba.out⟩
  · have h1I : ¬ (16 : Int) < (S.nh : Int) := by omega
    by_cases h2 : M > 32
    · have e : Hid (m = 7) := Lib.hid (by rw [E.out, if_pos (by rw [EM.out]; have := hM1.out.1 h2; simp; omega)])
      go_wp2_with fail
      go_ret
      exact ⟨by rw [e.out]; rfl, Ba.out⟩
    · have e1 : Hid (manyS S = false) := Lib.hid (by
        rw [EM.out]
        refine decide_eq_false fun h => h2 (hM1.out.2 ?_)
        omega)
      have E2 : Hid (m = if (b1 || (b3 || b2)) = true then 9 else if mayS S = true then 0 else 2) := Lib.hid (by rw [E.out, if_neg (by rw [e1.out]; decide)])
      have X2 := Lib.hid (XX.out.later Ba.out)
      have z18 := X2.out.2.2 18 _ rfl
      have z20 := X2.out.2.2 20 _ rfl
      have z22 := X2.out.2.2 22 _ rfl
      clear E e1
      cases b1
      · cases b3
        · cases b2
          · have C := Lib.hid (MY.out wa Ba.out)
            obtain ⟨y, hy⟩ : ∃ y, y = mayS S := ⟨_, rfl⟩
            rw [← hy] at C E2
            clear hy
            go_wp2_with fail
            refine C.out.mono ?_
            rintro e w2 ⟨rfl, hb2⟩
            have B2 := Lib.hid (bthen Ba.out hb2)
            clear hb2 C
            cases y
            · have e : Hid (m = 2) := Lib.hid (by rw [E2.out]; rfl)
              go_wp2_with fail
              go_ret
              exact ⟨by rw [e.out]; rfl, B2.out⟩
            · have e : Hid (m = 0) := Lib.hid (by rw [E2.out]; rfl)
              go_wp2_with fail
              go_ret
              exact ⟨by rw [e.out]; rfl, B2.out⟩
          · have e : Hid (m = 9) := Lib.hid (by rw [E2.out]; rfl)
            go_wp2_with fail
            go_ret
            exact ⟨by rw [e.out]; rfl, Ba.out⟩
        · have e : Hid (m = 9) := Lib.hid (by rw [E2.out]; rfl)
          go_wp2_with fail
          go_ret
          exact ⟨by rw [e.out]; rfl, Ba.out⟩
      · have e : Hid (m = 9) := Lib.hid (by rw [E2.out]; rfl)
        go_wp2_with fail
        go_ret
        exact ⟨by rw [e.out]; rfl, Ba.out⟩
end Go.Proofs.Ytkhdielfnphheaa
