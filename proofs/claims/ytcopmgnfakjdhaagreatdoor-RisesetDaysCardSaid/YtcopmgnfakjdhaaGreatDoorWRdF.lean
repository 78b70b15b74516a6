/- RisesetDays, plain: between a rising and a setting. -/
import Derived.Test.YtcopmgnfakjdhaaGreatDoorWRdL
namespace Go.Proofs.YtcopmgnfakjdhaaGreatDoor
set_option linter.unusedSimpArgs false
set_option linter.unusedVariables false
structure RdLaw (lon lat a1 a2 b1 b2 : Int) : Prop where
  lo : 21600000 < b1 - a2
  hi : b2 - a1 < 68400000
  mid : ∀ tm : Int, a2 + b1 - 1 ≤ 2 * tm → 2 * tm ≤ a2 + b1 + 1 → abF lon lat 0 tm = 1
theorem rd_law {lon lat d : Int} (hl : -150000000 < lat ∧ lat < 150000000) (ea : (rsF lon lat 0 d 1).2.2 = 0) (eb : (rsF lon lat 0 d (-1)).2.2 = 0) (h : (rsF lon lat 0 d 1).2.1 < (rsF lon lat 0 d (-1)).1) :
    RdLaw lon lat (rsF lon lat 0 d 1).1 (rsF lon lat 0 d 1).2.1 (rsF lon lat 0 d (-1)).1 (rsF lon lat 0 d (-1)).2.1 := by
  have SA := rsF_sd lon lat 0 d 1 ea
  have SB := rsF_sd lon lat 0 d (-1) eb
  have bA := rsF_bd lon lat 0 d 1 ea
  have bB := rsF_bd lon lat 0 d (-1) eb
  have A1 : abF lon lat 0 (rsF lon lat 0 d 1).1 = -1 := by have := SA.l; omega
  have A2 : abF lon lat 0 (rsF lon lat 0 d 1).2.1 = 1 := by have := SA.h; omega
  have B1 : abF lon lat 0 (rsF lon lat 0 d (-1)).1 = 1 := by have := SB.l; omega
  have B2 : abF lon lat 0 (rsF lon lat 0 d (-1)).2.1 = -1 := by have := SB.h; omega
  have sa := SA.o; have sw := SA.w; have sb := SB.o; have sv := SB.w
  clear SA SB
  generalize (rsF lon lat 0 d 1).1 = a1 at *
  generalize (rsF lon lat 0 d 1).2.1 = a2 at *
  generalize (rsF lon lat 0 d (-1)).1 = b1 at *
  generalize (rsF lon lat 0 d (-1)).2.1 = b2 at *
  have u1 := ab_dn A1; have u2 := ab_up A2; have u3 := ab_up B1; have u4 := ab_dn B2
  clear A1 A2 B1 B2
  have PA := (rd_pair (lon := lon) (lat := lat) (x := a1) (y := a2) (s := 1) (.inl rfl) hl sa sw (by grind) (by grind)).2
  have PB := (rd_pair (lon := lon) (lat := lat) (x := b1) (y := b2) (s := -1) (.inr rfl) hl sb sv (by grind) (by grind)).1
  obtain ⟨D, e, M⟩ := rd_move lon h
  obtain ⟨l1, l2⟩ := rd_lat hl
  rw [M.th, M.la] at PB
  have m1 := M.D1; have m2 := M.d0; have m3 := M.d1
  have g := Rat.intCast_le_intCast.2 (show a2 + 1 ≤ b1 by omega)
  rw [Rat.intCast_add, show ((1 : Int) : Rat) = 1 from rfl] at g
  have g2 := Rat.intCast_le_intCast.2 (show b1 ≤ a2 + 86400000 by omega)
  rw [Rat.intCast_add, show ((86400000 : Int) : Rat) = 86400000 from rfl] at g2
  have DY := rd_day (by grind) l2 (by grind) (by grind) m2 (by grind) PA PB
  obtain ⟨t1, t2⟩ := rd_turn (by grind) (by grind) DY.c
  have lo : 21600000 < b1 - a2 := by
    apply int_lt_of_rat
    rw [Rat.intCast_sub, show ((21600000 : Int) : Rat) = 21600000 from rfl]
    grind
  have hi' : b1 - a2 < 68000000 := by
    apply int_lt_of_rat
    rw [Rat.intCast_sub, show ((68000000 : Int) : Rat) = 68000000 from rfl]
    grind
  refine ⟨lo, by omega, ?_⟩
  intro tm q1 q2
  obtain ⟨D', d', M'⟩ := rd_move lon (show a2 < tm by omega)
  have k1 := Rat.intCast_le_intCast.2 q1
  have k2 := Rat.intCast_le_intCast.2 q2
  rw [Rat.intCast_sub, Rat.intCast_add, Rat.intCast_mul, show ((2 : Int) : Rat) = 2 from rfl, show ((1 : Int) : Rat) = 1 from rfl] at k1
  rw [Rat.intCast_mul, Rat.intCast_add, Rat.intCast_add, show ((2 : Int) : Rat) = 2 from rfl, show ((1 : Int) : Rat) = 1 from rfl] at k2
  have n1 := M'.D1; have n2 := M'.d0; have n3 := M'.d1
  have eth := M'.th; have ela := M'.la
  clear M M' PA PB u1 u2 u3 u4
  obtain ⟨r, hr⟩ : ∃ r, r = D' - D / 2 := ⟨_, rfl⟩
  have rb : -3 ≤ r / 2 ∧ r / 2 ≤ 3 := by
    clear DY eth ela t1 t2
    constructor <;> grind
  obtain ⟨-, -, -, -, a4, a5⟩ := rd_r1
  have rd : ra (d' / 2) ≤ 8923 / 1000000 := Rat.le_trans (ra_mono (show d' / 2 ≤ 1420000 by clear DY eth ela t1 t2; grind)) a4
  have v := rd_mvT (th := thT lon (a2 : Rat) + D / 2) (la := sunT (a2 : Rat)) (d := r) (D := 3) rb
  have w := rd_mv (th := thT lon (a2 : Rat) + D / 2 + r) (la := sunT (a2 : Rat)) (d := d') (D := d' / 2) (by clear DY eth ela t1 t2; constructor <;> grind)
  have ee : thT lon (a2 : Rat) + D / 2 + r = thT lon (tm : Rat) := by rw [eth, hr]; grind
  rw [ee] at v w
  rw [← ela] at w
  have w1 := DY.w; have w2 := DY.e
  have v1 := v.1; have v2 := v.2; have x1 := w.1; have x2 := w.2.1
  clear v w DY ee eth ela
  refine rd_lo hl ?_ ?_
  · unfold Near at v2 x2
    constructor <;> grind
  · unfold Near at v1 x1
    grind
end Go.Proofs.YtcopmgnfakjdhaaGreatDoor
