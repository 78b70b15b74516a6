/- round, beside leavers: from its entry till behind Wait. -/
import Derived.Test.YtplmgbffaeohpaaBhD
import Derived.Test.YtplmgbffaeohpaaCoRound
set_option linter.unusedSimpArgs false
set_option linter.unusedVariables false
namespace Go.Proofs.Ytplmgbffaeohpaa
open Go.Conc Go.Crew Go.Beh Go.RowKit Go.ConcR Go.ConcR.Gen Go.Conc.Lib

/-- The rows of intervals and of links, in memory. -/
structure NetAt (N : Net) (x : Go.Beh.M) (lb kb : Option Addr) : Prop where
  l : 0 < N.n → ∃ bl ol lc e f, lb = some ⟨bl, ol, none⟩ ∧ HasB x bl (.cells lc e f) ∧ (∀ i, i < N.n → lc[ol + i * 2]? = some (.int .i64 (N.lo i))) ∧ ∀ i, i < N.n → lc[ol + i * 2 + 1]? = some (.int .i64 (N.hi i))
  k : 0 < N.m → ∃ bk ok kc e f, kb = some ⟨bk, ok, none⟩ ∧ HasB x bk (.cells kc e f) ∧ (∀ j, j < N.m → kc[ok + j * 4]? = some (.int .i64 (N.A j))) ∧ (∀ j, j < N.m → kc[ok + j * 4 + 1]? = some (.int .i64 (N.B j))) ∧ (∀ j, j < N.m → kc[ok + j * 4 + 2]? = some (.int .i64 (N.dl j))) ∧ ∀ j, j < N.m → kc[ok + j * 4 + 3]? = some (.int .i64 (N.dh j))
theorem NetAt.ext {N : Net} {x y : Go.Beh.M} {lb kb : Option Addr} (h : NetAt N x lb kb) (r : Ext x y) : NetAt N y lb kb := by
  refine ⟨fun hn => ?_, fun hn => ?_⟩
  · obtain ⟨bl, ol, lc, e, f, h1, h2, h3⟩ := h.l hn
    exact ⟨bl, ol, lc, e, f, h1, h2.ext r, h3⟩
  · obtain ⟨bl, ol, lc, e, f, h1, h2, h3⟩ := h.k hn
    exact ⟨bl, ol, lc, e, f, h1, h2.ext r, h3⟩

/-- The row that a round lays. -/
def RowAt (N : Net) (x : Go.Beh.M) (b : Nat) : Prop := ∃ cs, HasB x b (.cells cs 33 (0, 0)) ∧ cs.size = N.n * 2 ∧ ∀ o, o < N.n * 2 → cs[o]? = some (valN N o)

set_option maxRecDepth 100000 in
set_option maxHeartbeats 1000000 in
theorem round_join (B : Base) (hP : B.P = Try.prog) (N : Net) (hN : N.Ok) (W : Nat) (hW : 1 ≤ W ∧ W ≤ 8) (x : Go.Beh.M) (lb kb : Option Addr) (capl capk : Nat) (hx : NetAt N x lb kb)
    (b0 : Frame) (hb0 : b0.fn = 14) (hk0 : b0.kind ≠ .early) (k0 : List Item) (cs : List Frame)
    (hnext : ∀ (u : Nat → Value) y, u 8 = .pointer (some ⟨x.h.size + 4, 0, none⟩) → Ext x y → HasB y (x.h.size + 4) (.cells #[.slice (some ⟨x.h.size + 3, 0, none⟩) N.n N.n] 23) → RowAt N y (x.h.size + 3) →
      Beh B (G (b0.at ⟨((List.range 25).map u).toArray, []⟩ (.inRegion ops14 [] :: .code rest14 :: k0)) cs) y) :
    Beh B (G (b0.at ⟨#[.slice lb N.n capl, .slice kb N.m capk, .int .i64 W] ++ Array.replicate 22 undef, []⟩ (.code body14 :: k0)) cs) x := by
  refine into_crew rfl fun w t c hw hc hd => ?_
  have hsz : w.heap.size = x.h.size := by rw [hw.h]
  obtain ⟨K, hK⟩ : ∃ K : Crew, K = { P := B.P, c := c, n := W, Wg := x.h.size + 5, C := x.h.size + 3, own := ownN c W N.n, t0 := t, one := hc, inj := fun k k' o h h' => by unfold ownN at h h'; omega, w0 := w, ty := 54, val := valN N, nob := x.S } := ⟨_, rfl⟩
  have kP : K.P = Try.prog := by rw [hK]; exact hP
  have kc : K.c = c := by rw [hK]
  have kn : K.n = W := by rw [hK]
  have kW : K.Wg = x.h.size + 5 := by rw [hK]
  have kC : K.C = x.h.size + 3 := by rw [hK]
  have kown : K.own = ownN K.c W N.n := by rw [hK]
  have kval : K.val = valN N := by rw [hK]
  have kty : K.ty = 54 := by rw [hK]
  have kw0 : K.w0 = w := by rw [hK]
  have knob : K.nob = x.S := by rw [hK]
  have kB : K.P = B.P := by rw [hK]
  have kt0 : K.t0 = t := by rw [hK]
  clear hK
  have shr : Shared K N lb kb := by
    refine ⟨fun hn => ?_, fun hn => ?_⟩
    · obtain ⟨bl, ol, lc, e, f, h1, h2, h3⟩ := hx.l hn
      exact ⟨bl, ol, lc, e, f, h1, by rw [kw0, hsz]; exact h2.lt, by rw [knob]; exact h2.ok, by rw [kw0, hw.h]; exact h2.at_, h3⟩
    · obtain ⟨bl, ol, lc, e, f, h1, h2, h3⟩ := hx.k hn
      exact ⟨bl, ol, lc, e, f, h1, by rw [kw0, hsz]; exact h2.lt, by rw [knob]; exact h2.ok, by rw [kw0, hw.h]; exact h2.at_, h3⟩
  obtain ⟨m0, hlife⟩ := life_ok K kP kty (by omega) N hN W hW kown kval lb kb capl capk shr
  obtain ⟨Ch, hCh⟩ : ∃ Ch : Nat → Goroutine → Sx → Prop, Ch = fun k g x => GoX K (worker k) m0 g x := ⟨_, rfl⟩
  obtain ⟨n, hround⟩ := round_ok K kP kty W hW kn N.n N.m hN.small.1 lb kb capl capk x.h.size kC kW Ch b0 hb0 hk0 k0 cs
  refine ⟨K, starter Ch (AtJoin K x.h.size N.n b0 k0 cs), 2 * m0 + 3, n, kB, kc, kt0, kw0, knob, by omega, rfl, by omega, fun k g x h => ⟨m0, Nat.le_refl _, by rw [hCh] at h; exact h⟩, ?_, ?_⟩
  · refine hround (fresh x w t K.c) rfl (by exact hd) rfl hsz (fun y x' wi bi bw bf rb hwi hnum hI hbi hbw hbf => ?_) (.inl rfl)
    have hk := hnum
    rw [hCh, ← hk]
    have hst : Started K.toCfg x'.num y.num := ⟨by omega, by rw [rb.num]; omega⟩
    have z0 : Z y x.h.size _ := hI.z0
    have z1 : Z y (x.h.size + 1) _ := hI.z1
    have z2 : Z y (x.h.size + 2) _ := hI.z2
    have z4 : Z y (x.h.size + 4) _ := hI.z4
    have zr : RowSz K 33 (N.n * 2) y := hI.row
    exact hlife y.num (by omega) wi hwi hk bi x.h.size (x.h.size + 2) (x.h.size + 1) (x.h.size + 4) bw bf x' ⟨(hbi.born rb).2, (z0.born rb).2, (z2.born rb).2, (z1.born rb).2, (z4.born rb).2⟩ ((zr.born rb).2 _)
      (hbf.born rb).2 (hbw.born rb).2 hst rb.stg rb.dN (by rw [rb.tag]; simp)
  · rintro a x' hinv ⟨htag, hd0, hz, hrow, hnum, u, hu, rfl⟩
    have hx0 : K.w0.heap.size = x.h.size := by rw [kw0, hsz]
    have hge : x.h.size ≤ x'.w.heap.size := by rw [← hx0]; exact hinv.size
    obtain ⟨y, hy⟩ : ∃ y : Go.Beh.M, y = ⟨x'.w.heap, fun b => x.S b ∨ b = K.Wg, fun b hb => by
      rcases hb with hb | hb
      · exact Nat.lt_of_lt_of_le (x.lt b hb) hge
      · have hg := hinv.grp.wg (by rw [htag]; simp)
        obtain ⟨st, sm, hwg⟩ := hg
        rw [hb]
        exact wg_lt hwg⟩ := ⟨_, rfl⟩
    have yh : y.h = x'.w.heap := by rw [hy]
    have yS : ∀ b, y.S b ↔ (x.S b ∨ b = K.Wg) := fun b => by rw [hy]
    clear hy
    refine ⟨htag, hd0, y, yh, yS, hnext u y hu ⟨by rw [yh]; exact hge, fun b hb => ?_, fun b hb hs => ?_⟩ ⟨by rw [yh]; exact (by have := hz.2; rw [kC] at this; exact this), fun hs => ?_⟩ ?_⟩
    · rw [yh, hinv.low b (by rw [hx0]; exact hb), kw0, hw.h]
    · rcases (yS b).1 hs with h | h
      · exact h
      · omega
    · rcases (yS _).1 hs with h | h
      · exact absurd (x.lt _ h) (by omega)
      · omega
    · obtain ⟨cc, h1, h2⟩ := hrow
      rw [kC] at h1
      refine ⟨cc, ⟨by rw [yh]; exact h1, fun hs => ?_⟩, h2, fun o ho => ?_⟩
      · rcases (yS _).1 hs with h | h
        · exact absurd (x.lt _ h) (by omega)
        · omega
      · have hall := hinv.allGone htag
        have hmod : (o / 2) % W < W := Nat.mod_lt _ (by omega)
        have hst : Started K.toCfg x'.num (K.c + (o / 2) % W) := ⟨by omega, by rw [hnum, kn]; omega⟩
        have h3 := (hinv.rel _ hst (by rw [hall _ hst]; omega)).2 o (by rw [kown]; exact ⟨by omega, by omega, by omega, by omega⟩)
        rw [kval, kC] at h3
        unfold World.cell? at h3
        simp only [h1] at h3
        exact h3
end Go.Proofs.Ytplmgbffaeohpaa
