/- TrigInverts, plain. -/
import Derived.Test.YtdeoahgcppbmkaaDoorAsin
import Derived.Test.YtdeoahgcppbmkaaDoorTrigN
import Derived.Test.YtdeoahgcppbmkaaDoorTrigO2
namespace Go.Proofs.YtdeoahgcppbmkaaDoor
set_option linter.unusedSimpArgs false
set_option linter.unusedVariables false
theorem s_tri (a : Int) : -1000000000 ≤ sLo a ∧ sLo a ≤ sHi a ∧ sHi a ≤ 1000000000 := by
  have h := sine_in a; exact ⟨h.bl, h.le, h.bh⟩
theorem so_tri (a b : Int) : -1000000000 ≤ soLo a b ∧ soLo a b ≤ soHi a b ∧ soHi a b ≤ 1000000000 := by
  have h := s_tri a; have g := s_tri b
  unfold soLo soHi
  split <;> split <;> omega
theorem so_left (a b : Int) : soLo a b ≤ sLo a ∧ sHi a ≤ soHi a b := by
  have h := s_tri a
  unfold soLo soHi
  constructor <;> split <;> omega
theorem so_right (a b : Int) : soLo a b ≤ sLo b ∧ sHi b ≤ soHi a b := by
  have h := s_tri b
  unfold soLo soHi
  constructor <;> split <;> omega
theorem s_congr {a b : Int} (h : a % 1000000000 = b % 1000000000) : sLo a = sLo b ∧ sHi a = sHi b := by
  unfold sLo sHi; rw [h]; exact ⟨rfl, rfl⟩
theorem co_left (a b : Int) : coLo a b ≤ cLo a ∧ cHi a ≤ coHi a b := by
  unfold coLo coHi cLo cHi
  exact so_left _ _
theorem co_right {a b : Int} (h : a ≤ b) (h2 : b - a ≤ 2000000000) : coLo a b ≤ cLo b ∧ cHi b ≤ coHi a b := by
  unfold coLo coHi
  have e : min (b - a) 2000000000 = b - a := by omega
  rw [e]
  obtain ⟨c1, c2⟩ := cos_sine b
  have s := s_congr (a := a % 1000000000 + 250000000 + (b - a)) (b := b + 250000000) (by omega)
  rw [c1, c2, ← s.1, ← s.2]
  exact so_right _ _
theorem co_tri (a b : Int) : -1000000000 ≤ coLo a b ∧ coLo a b ≤ coHi a b ∧ coHi a b ≤ 1000000000 := so_tri _ _
theorem sz_4 {Y X : Int} (hY : -1000000000 ≤ Y ∧ Y ≤ 1000000000) (hX : -1000000000 ≤ X ∧ X ≤ 1000000000) : szR Y X ≤ 4 * 1000000000 := by
  unfold szR
  rw [← Rat.natCast_add]
  have : ((X.natAbs + Y.natAbs : Nat) : Rat) ≤ ((2000000000 : Nat) : Rat) := Rat.natCast_le_natCast.2 (by omega)
  rw [show ((2000000000 : Nat) : Rat) = 2000000000 from rfl] at this
  grind
/-- An arc over boxes that hold an angle's sine and cosine holds the angle. -/
theorem arc_holds {a b c d al : Int} (ha : -1000000000 ≤ a) (hab : a ≤ b) (hb : b ≤ 1000000000) (hc : -1000000000 ≤ c) (hcd : c ≤ d) (hd : d ≤ 1000000000) (no : ¬ (a ≤ 0 ∧ 0 ≤ b ∧ c ≤ 0 ∧ 0 ≤ d)) (hw : ¬ 400000000 < arcHi a b c d - arcLo a b c d)
    (s1 : a ≤ sLo al) (s2 : sHi al ≤ b) (c1 : c ≤ cLo al) (c2 : cHi al ≤ d) : (al - arcLo a b c d % 1000000000) % 1000000000 ≤ arcHi a b c d - arcLo a b c d := by
  have H : ArcIn a b c d := ⟨⟨by omega, by omega⟩, ⟨by omega, by omega⟩, ⟨by omega, by omega⟩, ⟨by omega, by omega⟩, hab, hcd, no⟩
  obtain ⟨y, y1, y2, y3⟩ := (sin_span al).pt
  obtain ⟨x, x1, x2, x3⟩ := (cos_span al).pt
  have t1 := Rat.intCast_le_intCast.2 s1; have t2 := Rat.intCast_le_intCast.2 s2
  have t3 := Rat.intCast_le_intCast.2 c1; have t4 := Rat.intCast_le_intCast.2 c2
  obtain ⟨k, k1, k2⟩ := arc_contains H hw al (x := x) (y := y) (rho := 1000000000) (by grind) (by grind) (by grind) (by grind) (by grind) (sz_4 ⟨ha, by omega⟩ ⟨hc, by omega⟩) (sz_4 ⟨ha, by omega⟩ ⟨by omega, hd⟩) (sz_4 ⟨by omega, hb⟩ ⟨hc, by omega⟩) (sz_4 ⟨by omega, hb⟩ ⟨by omega, hd⟩) (near_weak x3 (by grind)) (near_weak y3 (by grind))
  generalize arcLo a b c d = lo at *
  generalize arcHi a b c d = hi at *
  clear t1 t2 t3 t4 x1 x2 x3 y1 y2 y3 s1 s2 c1 c2
  omega
end Go.Proofs.YtdeoahgcppbmkaaDoor
