/- What is held of a trace while a crew of workers is at work: who knows which touch of memory. -/
import Derived.Conc.Beside
import Derived.Conc.CrowdTrace
import Derived.Conc.CrowdBase
import Derived.Conc.CrowdSpec
set_option linter.unusedSimpArgs false
set_option linter.unusedVariables false
namespace Go.Crew
open Go.Conc
open Go.ConcN (fork_knows sumTo)
open Go.ConcR (stA smA WgAt KK rd wr mk)

/-- Whose a block is: read by all and written by nobody; one goroutine's own; made by goroutine 0 and handed to the workers from number k on; the row that the workers fill; the group's; nobody's. -/
inductive Cls where
  | frozen
  | mine (g : Nat)
  | gift (k : Nat)
  | row
  | grp
  | nobody

/-- What stands fixed for one crew: its first number, the group's block, the row's, who owns which cell of the row, the trace at its beginning. -/
structure Cfg where
  P : Program
  c : Nat
  n : Nat
  Wg : Nat
  C : Nat
  own : Nat → Nat → Prop
  t0 : Trace
  one : 1 ≤ c
  inj : ∀ k k' o, own k o → own k' o → k = k'


/-- Worker number k is started. -/
def Started (K : Cfg) (num k : Nat) : Prop := K.c ≤ k ∧ k < num

/-- Who must know a touch of this cell. -/
def Req (K : Cfg) (cls : Nat → Cls) (num : Nat) (ad : Addr) (wr : Bool) (g : Nat) : Prop :=
  match cls ad.block with
  | .frozen => wr = true ∧ (g = 0 ∨ Started K num g)
  | .mine h => g = h
  | .gift k => wr = true ∧ (g = 0 ∨ (k ≤ g ∧ Started K num g))
  | .row => (Started K num g ∧ K.own g ad.off) ∨ (g = 0 ∧ ∀ k, Started K num k → ¬ K.own k ad.off)
  | .grp => False
  | .nobody => False

/-- What goroutine i may touch. -/
def OkT (K : Cfg) (cls : Nat → Cls) (num i : Nat) (b : Touch) : Prop :=
  ∃ ad, b.loc = .cell ad ∧
    match cls ad.block with
    | .frozen => b.write = false
    | .mine h => h = i
    | .gift k => b.write = false ∧ (i = 0 ∨ k ≤ i)
    | .row => K.own i ad.off ∧ Started K num i
    | .grp => b.kind ≠ .plain ∧ (b.kind = .said → i = 0)
    | .nobody => False

structure TI (K : Cfg) (t : Trace) (sz : Nat) (cls : Nat → Cls) (num : Nat) : Prop where
  ext : ∃ u, t = K.t0 ++ u
  pos : K.c ≤ num
  clean : ∀ said, ¬ Race said t
  perm : ∀ i a ad g, touchAt t i = some a → a.loc = .cell ad → Req K cls num ad a.write g → Knows t g i
  quiet : ∀ (i : Nat) (op : MemOp) a ad, t[i]? = some op → op.act.touch? = some a → a.loc = .cell ad → cls ad.block = .grp → a.kind ≠ .plain ∧ (a.kind = .said → op.g = 0)
  who : ∀ (i : Nat) (op : MemOp), t[i]? = some op → i < K.t0.size ∨ op.act.touch? = none ∨ op.g = 0 ∨ Started K num op.g
  low : ∀ op ∈ t, op.act.low sz
  norel : NoRelease (stA K.Wg) t
  above : ∀ j, num ≤ j → Deaf t j = 0

theorem low_touch {act : MemAct} {sz : Nat} {a : Touch} {ad : Addr} (h : act.low sz) (ht : act.touch? = some a) (hl : a.loc = .cell ad) : ad.block < sz := by
  cases act with
  | access e =>
    simp only [MemAct.touch?, Option.some.injEq] at ht
    subst ht
    simp only at hl
    simp only [MemAct.low, hl] at h
    exact h
  | mark m =>
    cases m with
    | read ad0 =>
      simp only [MemAct.touch?, Option.some.injEq] at ht
      subst ht
      simp only [Loc.cell.injEq] at hl
      subst hl
      exact h
    | write ad0 =>
      simp only [MemAct.touch?, Option.some.injEq] at ht
      subst ht
      simp only [Loc.cell.injEq] at hl
      subst hl
      exact h
    | _ => simp [MemAct.touch?] at ht
  | _ => simp [MemAct.touch?] at ht

section
variable {K : Cfg} {t u : Trace} {sz num i : Nat} {cls : Nat → Cls}

/-- What goroutine i's step may add to the trace. -/
structure Add1 (K : Cfg) (sz : Nat) (cls : Nat → Cls) (num i : Nat) (op : MemOp) : Prop where
  g : op.g = i
  ok : ∀ b, op.act.touch? = some b → OkT K cls num i b
  low : op.act.low sz
  nrel : op.act ≠ .mark (.release (stA K.Wg))

theorem TI.app (h : TI K t sz cls num) (hi : i = 0 ∨ Started K num i) (hu : ∀ op ∈ u, Add1 K sz cls num i op) : TI K (t ++ u) sz cls num := by
  have hil : i < num := by
    rcases hi with rfl | hi
    · have := h.pos; have := K.one; omega
    · exact hi.2
  refine ⟨?_, h.pos, fun said => ?_, fun j a ad g ha hl hr => ?_, fun j op a ad hop ha hl hc => ?_, fun j op hop => ?_, fun op hop => ?_, h.norel.app fun op hop => (hu op hop).nrel, fun j hj => ?_⟩
  · obtain ⟨v, rfl⟩ := h.ext
    exact ⟨v ++ u, by simp⟩
  · refine noRace_append (h.clean said) (fun op hop => (hu op hop).g) (fun j a ha op hop b hb hc => ?_)
    obtain ⟨ad, hbl, hok⟩ := (hu op hop).ok b hb
    have hal : a.loc = .cell ad := hc.1.trans hbl
    have key : Req K cls num ad a.write i → Knows t i j := h.perm j a ad i ha hal
    cases hcl : cls ad.block with
    | frozen =>
      simp only [hcl] at hok
      have : a.write = true := by rcases hc.2.2.1 with x | x; exact x; rw [hok] at x; cases x
      exact key (by simp only [Req, hcl]; exact ⟨this, hi⟩)
    | mine g => simp only [hcl] at hok; exact key (by simp only [Req, hcl]; exact hok.symm)
    | gift k =>
      simp only [hcl] at hok
      have : a.write = true := by rcases hc.2.2.1 with x | x; exact x; rw [hok.1] at x; cases x
      exact key (by simp only [Req, hcl]; exact ⟨this, hok.2.elim .inl fun z => hi.imp id fun y => ⟨z, y⟩⟩)
    | row => simp only [hcl] at hok; exact key (by simp only [Req, hcl]; exact .inl ⟨hok.2, hok.1⟩)
    | grp =>
      simp only [hcl] at hok
      obtain ⟨x, hx, hxa⟩ := touch_of ha
      have hq := h.quiet j x a ad hx hxa hal hcl
      rcases hc.2.2.2 with y | y | ⟨_, y, z⟩
      · exact absurd y hq.1
      · exact absurd y hok.1
      · have := knows_own hx
        rw [hq.2 y] at this
        rwa [hok.2 z]
    | nobody => simp only [hcl] at hok
  · obtain ⟨x, hx, hxa⟩ := touch_of ha
    rcases getElem?_append_cases hx with ⟨_, hx'⟩ | ⟨_, hxu⟩
    · exact (h.perm j a ad g (by rw [touchAt_of hx']; exact hxa) hl hr).app u
    · have hk := knows_own hx
      rw [(hu x hxu).g] at hk
      obtain ⟨ad', hbl, hok⟩ := (hu x hxu).ok a hxa
      obtain rfl : ad = ad' := Loc.cell.inj (hl.symm.trans hbl)
      unfold Req at hr
      cases hcl : cls ad.block with
      | frozen => simp only [hcl] at hok hr; rw [hok] at hr; cases hr.1
      | mine g' => simp only [hcl] at hok hr; rw [hr, hok]; exact hk
      | gift k => simp only [hcl] at hok hr; rw [hok.1] at hr; cases hr.1
      | row =>
        simp only [hcl] at hok hr
        rcases hr with hr | hr
        · rw [K.inj g i _ hr.2 hok.1]; exact hk
        · exact absurd hok.1 (hr.2 i hok.2)
      | grp => simp only [hcl] at hr
      | nobody => simp only [hcl] at hr
  · rcases getElem?_append_cases hop with ⟨_, hop'⟩ | ⟨_, hopu⟩
    · exact h.quiet j op a ad hop' ha hl hc
    · obtain ⟨ad', hbl, hok⟩ := (hu op hopu).ok a ha
      obtain rfl : ad = ad' := Loc.cell.inj (hl.symm.trans hbl)
      simp only [hc] at hok
      rw [(hu op hopu).g]
      exact hok
  · rcases getElem?_append_cases hop with ⟨_, hop'⟩ | ⟨_, hopu⟩
    · exact h.who j op hop'
    · rw [(hu op hopu).g]; exact .inr (.inr hi)
  · exact (Array.mem_append.1 hop).elim (h.low op) fun x => (hu op x).low
  · rw [Deaf_other t (g' := i) (by omega) u fun op hop => (hu op hop).g]
    exact h.above j hj

/-- Operations of whoever has a number, touching nothing. -/
theorem TI.appMute (h : TI K t sz cls num) (hi : i < num) (hu : ∀ op ∈ u, op.g = i ∧ op.act.touch? = none ∧ op.act.low sz ∧ op.act ≠ .mark (.release (stA K.Wg))) : TI K (t ++ u) sz cls num := by
  refine ⟨?_, h.pos, fun said => ?_, fun j a ad g ha hl hr => ?_, fun j op a ad hop ha hl hc => ?_, fun j op hop => ?_, fun op hop => ?_, h.norel.app fun op hop => (hu op hop).2.2.2, fun j hj => ?_⟩
  · obtain ⟨v, rfl⟩ := h.ext
    exact ⟨v ++ u, by simp⟩
  · exact noRace_append (h.clean said) (fun op hop => (hu op hop).1) (fun j a ha op hop b hb hc => by rw [(hu op hop).2.1] at hb; cases hb)
  · obtain ⟨x, hx, hxa⟩ := touch_of ha
    rcases getElem?_append_cases hx with ⟨_, hx'⟩ | ⟨_, hxu⟩
    · exact (h.perm j a ad g (by rw [touchAt_of hx']; exact hxa) hl hr).app u
    · rw [(hu x hxu).2.1] at hxa; cases hxa
  · rcases getElem?_append_cases hop with ⟨_, hop'⟩ | ⟨_, hopu⟩
    · exact h.quiet j op a ad hop' ha hl hc
    · rw [(hu op hopu).2.1] at ha; cases ha
  · rcases getElem?_append_cases hop with ⟨_, hop'⟩ | ⟨_, hopu⟩
    · exact h.who j op hop'
    · exact .inr (.inl (hu op hopu).2.1)
  · exact (Array.mem_append.1 hop).elim (h.low op) fun x => (hu op x).2.2.1
  · rw [Deaf_other t (g' := i) (by omega) u fun op hop => (hu op hop).1]
    exact h.above j hj

theorem TI.cellLow (h : TI K t sz cls num) {j : Nat} {a : Touch} {ad : Addr} (ha : touchAt t j = some a) (hl : a.loc = .cell ad) : ad.block < sz := by
  obtain ⟨x, hx, hxa⟩ := touch_of ha
  exact low_touch (h.low x (mem_of_getElem? hx)) hxa hl

/-- Blocks that nobody has touched yet may be anybody's. -/
theorem TI.grow (h : TI K t sz cls num) {sz' : Nat} {cls' : Nat → Cls} (hs : sz ≤ sz') (hc : ∀ b, b < sz → cls' b = cls b) : TI K t sz' cls' num := by
  refine ⟨h.ext, h.pos, h.clean, fun j a ad g ha hl hr => ?_, fun j op a ad hop ha hl hcl => ?_, h.who, fun op hop => MemAct.low_mono hs (h.low op hop), h.norel, h.above⟩
  · have hb := h.cellLow ha hl
    unfold Req at hr
    rw [hc _ hb] at hr
    exact h.perm j a ad g ha hl hr
  · have hb := low_touch (h.low op (mem_of_getElem? hop)) ha hl
    rw [hc _ hb] at hcl
    exact h.quiet j op a ad hop ha hl hcl

/-- A block of goroutine 0's that it alone has touched becomes the row, or the group's: if nobody has touched it. -/
theorem TI.reclass (h : TI K t sz cls num) {cls' : Nat → Cls} (B : Nat) (hB : ∀ op ∈ t, op.act.low B) (hc : ∀ b, b < B → cls' b = cls b) : TI K t sz cls' num := by
  have h' : TI K t B cls num := ⟨h.ext, h.pos, h.clean, h.perm, h.quiet, h.who, hB, h.norel, h.above⟩
  have := h'.grow (Nat.le_refl B) hc
  exact ⟨this.ext, this.pos, this.clean, this.perm, this.quiet, this.who, h.low, this.norel, this.above⟩

/-- A go statement. -/
theorem TI.fork (h : TI K t sz cls num) {x y : MemOp} (hx : x.g = 0 ∧ x.act = .go num) (hy : y.g = num ∧ y.act = .start) (h0 : Deaf t 0 = 0) {cls' : Nat → Cls}
    (hc : ∀ b, (cls b = .mine 0 ∧ cls' b = .gift num) ∨ ((∀ k, cls b ≠ .mine k ∨ k ≠ 0) ∧ cls' b = cls b)) (hnm : ∀ b, cls b ≠ .mine num) : TI K (t ++ #[x, y]) sz cls' (num + 1) := by
  have hk : Deaf t num = 0 := h.above num (Nat.le_refl _)
  have hnt : ∀ op ∈ #[x, y], ∀ b, op.act.touch? = some b → False := by
    intro op hop b hb
    simp only [List.mem_toArray, List.mem_cons, List.not_mem_nil, or_false] at hop
    rcases hop with rfl | rfl
    · rw [hx.2] at hb; cases hb
    · rw [hy.2] at hb; cases hb
  have old : ∀ {j : Nat} {a : Touch}, touchAt (t ++ #[x, y]) j = some a → touchAt t j = some a := by
    intro j a ha
    obtain ⟨z, hz, hza⟩ := touch_of ha
    rcases getElem?_append_cases hz with ⟨_, hz'⟩ | ⟨_, hzu⟩
    · rw [touchAt_of hz']; exact hza
    · exact (hnt z hzu a hza).elim
  have fk : ∀ {j : Nat}, Knows t 0 j → Knows (t ++ #[x, y]) num j := fun hk0 => fork_knows hx hy h0 hk hk0
  have hcn : K.c ≤ num := h.pos
  refine ⟨?_, by omega, fun said => ?_, fun j a ad g ha hl hr => ?_, fun j op a ad hop ha hl hcl => ?_, fun j op hop => ?_, fun op hop => ?_, h.norel.app fun op hop hm => ?_, fun j hj => ?_⟩
  · obtain ⟨v, rfl⟩ := h.ext
    exact ⟨v ++ #[x, y], by simp⟩
  · have e : t ++ #[x, y] = (t ++ #[x]) ++ #[y] := by apply Array.ext'; simp
    rw [e]
    refine noRace_append (g := num) (noRace_append (g := 0) (h.clean said) (fun op hop => by simp at hop; rw [hop]; exact hx.1) (fun i a _ op hop b hb _ => (hnt op (by simp at hop ⊢; exact .inl hop) b hb).elim))
      (fun op hop => by simp at hop; rw [hop]; exact hy.1) (fun i a _ op hop b hb _ => (hnt op (by simp at hop ⊢; exact .inr hop) b hb).elim)
  · have ha' := old ha
    have P := fun g => h.perm j a ad g ha' hl
    unfold Req at hr P
    rcases hc ad.block with ⟨e1, e2⟩ | ⟨e0, e2⟩
    · simp only [e2] at hr
      simp only [e1] at P
      rcases hr.2 with rfl | ⟨hk1, hk2⟩
      · exact (P 0 rfl).app _
      · have : g = num := by have := hk2.2; omega
        subst this
        exact fk (P 0 rfl)
    · rw [e2] at hr
      cases hcl : cls ad.block with
      | frozen =>
        simp only [hcl] at hr P
        rcases hr.2 with rfl | hs
        · exact (P 0 ⟨hr.1, .inl rfl⟩).app _
        · by_cases hg : g = num
          · subst hg; exact fk (P 0 ⟨hr.1, .inl rfl⟩)
          · exact (P g ⟨hr.1, .inr ⟨hs.1, by have := hs.2; omega⟩⟩).app _
      | mine k => simp only [hcl] at hr P; exact (P g hr).app _
      | gift k =>
        simp only [hcl] at hr P
        rcases hr.2 with rfl | ⟨hk1, hs⟩
        · exact (P 0 ⟨hr.1, .inl rfl⟩).app _
        · by_cases hg : g = num
          · subst hg; exact fk (P 0 ⟨hr.1, .inl rfl⟩)
          · exact (P g ⟨hr.1, .inr ⟨hk1, hs.1, by have := hs.2; omega⟩⟩).app _
      | row =>
        simp only [hcl] at hr P
        rcases hr with ⟨hs, ho⟩ | ⟨rfl, hn⟩
        · by_cases hg : g = num
          · subst hg
            refine fk (P 0 (.inr ⟨rfl, fun k hk' hok => ?_⟩))
            have := K.inj k g _ hok ho
            have := hk'.2
            omega
          · exact (P g (.inl ⟨⟨hs.1, by have := hs.2; omega⟩, ho⟩)).app _
        · exact (P 0 (.inr ⟨rfl, fun k hk' => hn k ⟨hk'.1, by have := hk'.2; omega⟩⟩)).app _
      | grp => simp only [hcl] at hr
      | nobody => simp only [hcl] at hr
  · rcases getElem?_append_cases hop with ⟨_, hop'⟩ | ⟨_, hopu⟩
    · rcases hc ad.block with ⟨e1, e2⟩ | ⟨_, e2⟩
      · rw [e2] at hcl; cases hcl
      · exact h.quiet j op a ad hop' ha hl (e2 ▸ hcl)
    · exact (hnt op hopu a ha).elim
  · rcases getElem?_append_cases hop with ⟨_, hop'⟩ | ⟨_, hopu⟩
    · rcases h.who j op hop' with w | w | w | w
      · exact .inl w
      · exact .inr (.inl w)
      · exact .inr (.inr (.inl w))
      · exact .inr (.inr (.inr ⟨w.1, by have := w.2; omega⟩))
    · simp only [List.mem_toArray, List.mem_cons, List.not_mem_nil, or_false] at hopu
      rcases hopu with rfl | rfl
      · exact .inr (.inr (.inl hx.1))
      · exact .inr (.inr (.inr ⟨by rw [hy.1]; exact hcn, by rw [hy.1]; omega⟩))
  · rcases Array.mem_append.1 hop with x' | x'
    · exact h.low op x'
    · simp only [List.mem_toArray, List.mem_cons, List.not_mem_nil, or_false] at x'
      rcases x' with rfl | rfl
      · rw [hx.2]; trivial
      · rw [hy.2]; trivial
  · simp only [List.mem_toArray, List.mem_cons, List.not_mem_nil, or_false] at hop
    rcases hop with rfl | rfl
    · rw [hx.2] at hm; cases hm
    · rw [hy.2] at hm; cases hm
  · have e : t ++ #[x, y] = (t ++ #[x]) ++ #[y] := by apply Array.ext'; simp
    have h1 := K.one
    rw [e, Deaf_other _ (g' := num) (by omega) #[y] (fun op hop => by simp at hop; rw [hop]; exact hy.1), Deaf_other _ (g' := 0) (by omega) #[x] (fun op hop => by simp at hop; rw [hop]; exact hx.1)]
    exact h.above j (by omega)
end

/-! ### The beginning and the end -/

/-- Worker k has released the group, hearing; behind that it touches the group alone, atomically and deaf. -/
structure RelB (Wg : Nat) (t : Trace) (k r : Nat) : Prop where
  act : t.act? r = some (.mark (.releaseMerge (stA Wg)))
  g : t.g? r = some k
  heard : t.heard r
  after : ∀ i, r < i → t.g? i = some k → ∀ a, touchAt t i = some a → (∃ ad, a.loc = .cell ad ∧ ad.block = Wg) ∧ a.kind = .atomic ∧ ¬ t.heard i

section
variable {K : Cfg} {t u : Trace} {sz num i : Nat} {cls : Nat → Cls}

theorem RelB.app {Wg k r : Nat} (h : RelB Wg t k r) (hu : ∀ i, t.size ≤ i → (t ++ u).g? i = some k → ∀ a, touchAt (t ++ u) i = some a → (∃ ad, a.loc = .cell ad ∧ ad.block = Wg) ∧ a.kind = .atomic ∧ ¬ (t ++ u).heard i) : RelB Wg (t ++ u) k r := by
  have hr := lt_of_act? h.act
  refine ⟨by rw [act?_old hr]; exact h.act, by rw [g?_old hr]; exact h.g, (heard_old hr).2 h.heard, fun j hj hg a ha => ?_⟩
  rcases Nat.lt_or_ge j t.size with hl | hl
  · rw [touchAt_old hl] at ha
    rw [g?_old hl] at hg
    rw [heard_old hl]
    exact h.after j hj hg a ha
  · exact hu j hl hg a ha

theorem RelB.other {Wg k r g : Nat} (h : RelB Wg t k r) (hg : g ≠ k) (hu : ∀ op ∈ u, op.g = g) : RelB Wg (t ++ u) k r := by
  refine h.app fun j hj hgj a ha => ?_
  obtain ⟨x, hx, hxa⟩ := touch_of ha
  rcases getElem?_append_cases hx with ⟨hl, _⟩ | ⟨_, hxu⟩
  · omega
  · have : x.g = k := by simpa [Trace.g?, hx] using hgj
    exact absurd ((hu x hxu).symm.trans this) hg

/-- A frame with leavers, no worker started: what is known of the trace. -/
theorem TI.begin {Shun : Loc → Prop} {B : Nat} (K : Cfg) (t : Trace) (ht : K.t0 = t) (hP : Past Shun B t) (hB : B ≤ K.Wg) (ha : ∀ j, K.c ≤ j → Deaf t j = 0)
    (cls : Nat → Cls) (hc : ∀ b, b < B → cls b = .frozen ∨ cls b = .nobody) (hS : ∀ ad, Shun (.cell ad) → ad.block < B → cls ad.block = .nobody) : TI K t B cls K.c := by
  refine ⟨⟨#[], by rw [ht]; simp⟩, Nat.le_refl _, hP.clean, fun j a ad g ha' hl hr => ?_, fun j op a ad hop hta hl hcl => ?_, fun j op hop => ?_, hP.seen, fun j hj => ?_, ha⟩
  · obtain ⟨x, hx, hxa⟩ := touch_of ha'
    have hb : ad.block < B := low_touch (hP.seen x (mem_of_getElem? hx)) hxa hl
    unfold Req at hr
    rcases hc _ hb with e | e
    · simp only [e] at hr
      rcases hr.2 with rfl | hs
      · rcases hP.known j a ha' (by rw [hl]; rfl) with hk | ⟨hsh, _⟩
        · exact hk
        · rw [hl] at hsh
          rw [hS ad hsh hb] at e
          cases e
      · exact absurd hs.1 (Nat.not_le.2 hs.2)
    · simp only [e] at hr
  · have hb : ad.block < B := low_touch (hP.seen op (mem_of_getElem? hop)) hta hl
    rcases hc _ hb with e | e <;> rw [e] at hcl <;> cases hcl
  · exact .inl (by rw [ht]; exact lt_size_of_getElem? hop)
  · unfold Trace.act? at hj
    obtain ⟨x, hx, hxa⟩ := Option.map_eq_some_iff.1 hj
    have := hP.seen x (mem_of_getElem? hx)
    rw [hxa] at this
    have h2 : (stA K.Wg).block < B := this
    simp only [stA] at h2
    omega

/-- Goroutine 0 has acquired the group, hearing, behind every worker's release. -/
def AcqAll (K : Cfg) (t : Trace) (num : Nat) : Prop :=
  ∃ q, t.act? q = some (.mark (.acquire (stA K.Wg))) ∧ t.g? q = some 0 ∧ t.heard q ∧ ∀ k, Started K num k → ∃ r, RelB K.Wg t k r ∧ r < q

theorem AcqAll.app (h : AcqAll K t num) (hu : ∀ k r, Started K num k → RelB K.Wg t k r → RelB K.Wg (t ++ u) k r) : AcqAll K (t ++ u) num := by
  obtain ⟨q, h1, h2, h3, h4⟩ := h
  have hq := lt_of_act? h1
  refine ⟨q, by rw [act?_old hq]; exact h1, by rw [g?_old hq]; exact h2, (heard_old hq).2 h3, fun k hk => ?_⟩
  obtain ⟨r, hr, hrq⟩ := h4 k hk
  exact ⟨r, hu k r hk hr, hrq⟩

/-- The end: what stands behind the crew is a frame again. -/
theorem TI.past {Shun : Loc → Prop} {B : Nat} (h : TI K t sz cls num) (hP : Past Shun B K.t0) (hq : AcqAll K t num) (h0 : Deaf t 0 = 0) :
    Past (fun l => Shun l ∨ ∃ ad, l = .cell ad ∧ ad.block = K.Wg) sz t := by
  obtain ⟨q, hqa, hqg, hqh, hrel⟩ := hq
  obtain ⟨v, hv⟩ := h.ext
  have edge : ∀ k r, RelB K.Wg t k r → r < q → HappensBefore t r q := fun k r hr hrq =>
    .single (.inr ⟨.marked hrq (.inr hr.act) hqa (fun k' _ _ => h.norel k'), hr.heard, hqh⟩)
  have upTo : ∀ {j k r : Nat}, RelB K.Wg t k r → r < q → t.g? j = some k → j ≤ r → HappensBefore t j q := by
    intro j k r hr hrq hj hle
    rcases Nat.lt_or_ge j r with hlt | hge
    · exact .trans (.single (.inl ⟨hlt, k, hj, hr.g⟩)) (edge k r hr hrq)
    · obtain rfl : j = r := by omega
      exact edge k j hr hrq
  have qz : ∃ z, t[q]? = some z ∧ z.g = 0 := by
    unfold Trace.g? at hqg
    exact Option.map_eq_some_iff.1 hqg
  obtain ⟨z, hz, hz0⟩ := qz
  refine ⟨h.clean, fun j a ha hm => ?_, fun j g hg hne hc => ?_, h0, h.low⟩
  · obtain ⟨x, hx, hxa⟩ := touch_of ha
    rcases h.who j x hx with w | w | w | w
    · rw [hv] at ha ⊢
      rw [touchAt_old w] at ha
      exact (hP.known j a ha hm).imp (fun k => k.app v) fun k => ⟨.inl k.1, k.2⟩
    · rw [w] at hxa; cases hxa
    · have := knows_own hx
      rw [w] at this
      exact .inl this
    · obtain ⟨r, hr, hrq⟩ := hrel x.g w
      have hgj : t.g? j = some x.g := by simp [Trace.g?, hx]
      rcases Nat.lt_or_ge r j with hlt | hge
      · obtain ⟨hloc, hk, _⟩ := hr.after j hlt hgj a ha
        exact .inr ⟨.inr hloc, hk⟩
      · exact .inl ⟨q, z, hz, hz0, .inr (upTo hr hrq hgj hge)⟩
  · obtain ⟨a, ha, hm, hkind⟩ := id hc
    obtain ⟨x, hx, hxa⟩ := touch_of ha
    have hxg : x.g = g := by simpa [Trace.g?, hx] using hg
    rcases h.who j x hx with w | w | w | w
    · rw [hv] at hg hc ⊢
      rw [g?_old w] at hg
      rw [counts_old w] at hc
      obtain ⟨p, hp, hb⟩ := hP.over j g hg hne hc
      have hpl : p < K.t0.size := by
        unfold Trace.g? at hp
        obtain ⟨y, hy, _⟩ := Option.map_eq_some_iff.1 hp
        exact lt_size_of_getElem? hy
      exact ⟨p, by rw [g?_old hpl]; exact hp, hb_app v hb⟩
    · rw [w] at hxa; cases hxa
    · exact absurd (hxg.symm.trans w) hne
    · obtain ⟨r, hr, hrq⟩ := hrel x.g w
      have hgj : t.g? j = some x.g := by simp [Trace.g?, hx]
      rcases Nat.lt_or_ge r j with hlt | hge
      · obtain ⟨_, hk, hd⟩ := hr.after j hlt hgj a ha
        rcases hkind with y | y
        · exact absurd hk y
        · exact absurd y hd
      · exact ⟨q, hqg, upTo hr hrq hgj hge⟩
end
end Go.Crew
