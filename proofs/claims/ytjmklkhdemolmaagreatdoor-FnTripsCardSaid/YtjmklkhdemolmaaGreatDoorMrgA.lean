/- The first texts of this proof, put together: what each part says stands ahead of it. No condition. -/
import Derived.WalkKit
import Derived.Test.YtjmklkhdemolmaaGreatDoorRows
import Derived.ProofKit
import Derived.OpenShut
import Derived.SizedLaws
import Derived.Lib.SmallJoins
import Derived.Lib.Hide
import Derived.Deep.Slices
import Derived.Deep.Fields
import Derived.ChangeSame
import Derived.Deep.OwnRows
import Derived.Lib.QuietBelow
import Derived.Deep.QuietTactic
import Derived.BigQuiet
import Derived.WalkLawsBesides
import Derived.Laws.IdiomStrings
import Derived.ChangeMaps5
/- Plain definitions and laws on numbers and lists. No program. -/
namespace Go.Proofs.YtjmklkhdemolmaaGreatDoor

theorem ret_int {k : IntKind} {a b : Int} (h : a = b) : Ending.returned (.int k a) = .returned (.int k b) := by rw [h]
theorem ret_bool {a b : Bool} (h : a = b) : Ending.returned (.bool a) = .returned (.bool b) := by rw [h]
theorem ret2 {k k' : IntKind} {a b a' b' : Int} (h : a = a') (h' : b = b') : Ending.returned (.tuple #[.int k a, .int k' b]) = .returned (.tuple #[.int k a', .int k' b']) := by rw [h, h']
theorem ret3 {k k' k'' : IntKind} {a b c a' b' c' : Int} (h : a = a') (h' : b = b') (h'' : c = c') : Ending.returned (.tuple #[.int k a, .int k' b, .int k'' c]) = .returned (.tuple #[.int k a', .int k' b', .int k'' c']) := by rw [h, h', h'']
def inB (n a b : Int) : Bool := decide (a ≤ n ∧ n ≤ b)
theorem inB_yes {n a b : Int} (h : a ≤ n) (h' : n ≤ b) : inB n a b = true := by simp [inB, h, h']
theorem inB_no {n a b : Int} (h : ¬ (a ≤ n ∧ n ≤ b)) : inB n a b = false := by simpa [inB] using h
theorem inB_iff {n a b : Int} : inB n a b = true ↔ a ≤ n ∧ n ≤ b := by simp [inB]
theorem inB_out {n a b : Int} (h : inB n a b = true) : a ≤ n ∧ n ≤ b := inB_iff.1 h

/-- The code of what is asked first (v), and of the numbers (f). -/
def askCode (v f : Bool) : Int := if v then (if f then 0 else 2) else 1

def allTo (p : Nat → Bool) : Nat → Bool
  | 0 => true
  | n + 1 => allTo p n && p n
theorem allTo_yes {p : Nat → Bool} {n : Nat} (h : ∀ i, i < n → p i = true) : allTo p n = true := by
  induction n with
  | zero => rfl
  | succ n ih => simp [allTo, ih (fun i hi => h i (by omega)), h n (by omega)]
theorem allTo_out {p : Nat → Bool} {n : Nat} (h : allTo p n = true) : ∀ i, i < n → p i = true := by
  induction n with
  | zero => intro i hi; omega
  | succ n ih =>
    simp only [allTo, Bool.and_eq_true] at h
    intro i hi
    by_cases e : i = n
    · rw [e]; exact h.2
    · exact ih h.1 i (by omega)
theorem allTo_no {p : Nat → Bool} {n k : Nat} (hk : k < n) (h : p k = false) : allTo p n = false := by
  cases e : allTo p n with
  | false => rfl
  | true => rw [allTo_out e k hk] at h; cases h
theorem allTo_congr {p q : Nat → Bool} {n : Nat} (h : ∀ i, i < n → p i = q i) : allTo p n = allTo q n := by
  induction n with
  | zero => rfl
  | succ n ih => simp [allTo, ih (fun i hi => h i (by omega)), h n (by omega)]

/-- The first k < n of which p holds, else n. -/
def firstTo (p : Nat → Bool) : Nat → Nat
  | 0 => 0
  | n + 1 => if firstTo p n < n then firstTo p n else if p n then n else n + 1
theorem firstTo_eq {p : Nat → Bool} {n k : Nat} (hk : k ≤ n) (hb : ∀ i, i < k → p i = false) (ha : k < n → p k = true) : firstTo p n = k := by
  induction n generalizing k with
  | zero => simp only [firstTo]; omega
  | succ n ih =>
    simp only [firstTo]
    by_cases e : k ≤ n
    · by_cases e' : k = n
      · subst e'
        rw [ih (k := k) (Nat.le_refl _) hb (fun h => absurd h (Nat.lt_irrefl _)), if_neg (Nat.lt_irrefl _), ha (by omega), if_pos rfl]
      · rw [ih (k := k) e hb (fun h => ha (by omega)), if_pos (by omega)]
    · have e1 : k = n + 1 := by omega
      subst e1
      rw [ih (k := n) (Nat.le_refl _) (fun i hi => hb i (by omega)) (fun h => absurd h (Nat.lt_irrefl _)), if_neg (Nat.lt_irrefl _), hb n (by omega)]
      simp
theorem firstTo_le (p : Nat → Bool) (n : Nat) : firstTo p n ≤ n := by
  induction n with
  | zero => simp [firstTo]
  | succ n ih =>
    simp only [firstTo]
    split
    · omega
    · split <;> omega
theorem firstTo_spec (p : Nat → Bool) (n : Nat) : (∀ i, i < firstTo p n → p i = false) ∧ (firstTo p n < n → p (firstTo p n) = true) := by
  induction n with
  | zero => simp [firstTo]
  | succ n ih =>
    simp only [firstTo]
    by_cases h : firstTo p n < n
    · rw [if_pos h]; exact ⟨ih.1, fun _ => ih.2 h⟩
    · have := firstTo_le p n
      have e : firstTo p n = n := by omega
      rw [if_neg h]
      rw [e] at ih
      by_cases hp : p n = true
      · rw [if_pos hp]; exact ⟨ih.1, fun _ => hp⟩
      · rw [if_neg hp]
        refine ⟨fun i hi => ?_, fun h => by omega⟩
        by_cases e' : i = n
        · rw [e']; simpa using hp
        · exact ih.1 i (by omega)
/-- As Go's searches say it: the index, or -1. -/
def idxTo (p : Nat → Bool) (n : Nat) : Int := if firstTo p n < n then (firstTo p n : Int) else -1
theorem idxTo_at {p : Nat → Bool} {n k : Nat} (hk : k < n) (hb : ∀ i, i < k → p i = false) (ha : p k = true) : idxTo p n = k := by
  unfold idxTo; rw [firstTo_eq (Nat.le_of_lt hk) hb (fun _ => ha), if_pos hk]
theorem idxTo_none {p : Nat → Bool} {n : Nat} (hb : ∀ i, i < n → p i = false) : idxTo p n = -1 := by
  unfold idxTo; rw [firstTo_eq (Nat.le_refl n) hb (fun h => absurd h (Nat.lt_irrefl _)), if_neg (Nat.lt_irrefl _)]
theorem idxTo_ge {p : Nat → Bool} {n : Nat} : decide (0 ≤ idxTo p n) = !allTo (fun i => !p i) n := by
  by_cases h : firstTo p n < n
  · have h1 := (firstTo_spec p n).2 h
    rw [allTo_no h (by simp [h1])]
    simp [idxTo, h]
  · have h1 := (firstTo_spec p n).1
    have h2 := firstTo_le p n
    rw [allTo_yes (fun i hi => by simp [h1 i (by omega)])]
    simp [idxTo, h]
theorem idxTo_bounds (p : Nat → Bool) (n : Nat) : -1 ≤ idxTo p n ∧ idxTo p n < n ∨ (n = 0 ∧ idxTo p n = -1) := by
  unfold idxTo
  by_cases h : firstTo p n < n
  · rw [if_pos h]; left; omega
  · rw [if_neg h]; by_cases e : n = 0
    · right; exact ⟨e, rfl⟩
    · left; omega

theorem mul_bd {x y a b : Int} (h0 : 0 ≤ x) (h1 : x ≤ a) (h2 : 0 ≤ y) (h3 : y ≤ b) : 0 ≤ x * y ∧ x * y ≤ a * b :=
  ⟨Int.mul_nonneg h0 h2, Int.mul_le_mul h1 h3 h2 (by omega)⟩

/-- The nearest quotient, halves away from nought, for b > 0. -/
def rnd (a b : Int) : Int := if a < 0 then -((b - 2 * a) / (2 * b)) else (2 * a + b) / (2 * b)

theorem tdiv_pos' {a b : Int} (ha : 0 ≤ a) : a.tdiv b = a / b := Int.tdiv_eq_ediv_of_nonneg ha
theorem near_pos {a b : Int} (ha : 0 ≤ a) (hb : 1 ≤ b) : (if b - a % b ≤ a % b then a / b + 1 else a / b) = rnd a b := by
  have h1 := Int.mul_ediv_add_emod a b
  have h2 := Int.emod_nonneg a (show b ≠ 0 by omega)
  have h3 := Int.emod_lt_of_pos a (show 0 < b by omega)
  have hr : rnd a b = (2 * a + b) / (2 * b) := by unfold rnd; rw [if_neg (by omega)]
  rw [hr]
  generalize a / b = q at *
  generalize a % b = r at *
  subst h1
  by_cases h : b - r ≤ r
  · rw [if_pos h]
    have e : 2 * (b * q + r) + b = (2 * r - b) + (2 * b) * (q + 1) := by
      rw [Int.mul_add, Int.mul_add, Int.mul_assoc]; omega
    rw [e, Int.add_mul_ediv_left _ _ (by omega), Int.ediv_eq_zero_of_lt (by omega) (by omega)]; omega
  · rw [if_neg h]
    have e : 2 * (b * q + r) + b = (2 * r + b) + (2 * b) * q := by
      rw [Int.mul_add, Int.mul_assoc]; omega
    rw [e, Int.add_mul_ediv_left _ _ (by omega), Int.ediv_eq_zero_of_lt (by omega) (by omega)]; omega
theorem rnd_neg {a b : Int} (ha : a < 0) : rnd a b = - rnd (-a) b := by
  unfold rnd
  rw [if_pos ha, if_neg (by omega)]
  congr 2
  omega
theorem rnd_bd {a b : Int} (ha : 0 ≤ a) (hb : 1 ≤ b) : 0 ≤ rnd a b ∧ rnd a b ≤ a + 1 := by
  unfold rnd
  rw [if_neg (by omega)]
  refine ⟨Int.ediv_nonneg (by omega) (by omega), ?_⟩
  have h1 : (2 * a + b) / (2 * b) < a + 2 := by
    refine Int.ediv_lt_of_lt_mul (by omega) ?_
    have h2 : a * 1 ≤ a * b := Int.mul_le_mul_of_nonneg_left hb ha
    have h3 : (a + 2) * (2 * b) = 2 * (a * b) + 4 * b := by
      rw [Int.add_mul, ← Int.mul_assoc, Int.mul_comm a 2, Int.mul_assoc]; omega
    omega
  omega

def vSpan (a b : Int) : Bool := inB a 0 1440 && inB b 0 1440 && decide (a ≤ b)
theorem vSpan_out {a b : Int} (h : vSpan a b = true) : 0 ≤ a ∧ a ≤ b ∧ b ≤ 1440 := by
  simp only [vSpan, Bool.and_eq_true, inB_iff, decide_eq_true_eq] at h; omega
theorem vSpan_alt (a b : Int) : vSpan a b = (inB a 0 1440 && inB b a 1440) := by
  rw [Bool.eq_iff_iff]; simp only [vSpan, Bool.and_eq_true, inB_iff, decide_eq_true_eq]; omega
theorem vSpan_cases (a b : Int) : (inB a 0 1440 = false ∧ Go.RowKit.Hid (vSpan a b = false)) ∨ (inB a 0 1440 = true ∧ inB b 0 1440 = false ∧ Go.RowKit.Hid (vSpan a b = false)) ∨
    (inB a 0 1440 = true ∧ inB b 0 1440 = true ∧ Go.RowKit.Hid (vSpan a b = decide (a ≤ b))) := by
  have key : vSpan a b = (inB a 0 1440 && inB b 0 1440 && decide (a ≤ b)) := rfl
  cases h1 : inB a 0 1440
  · exact .inl ⟨rfl, by rw [h1] at key; exact key⟩
  · cases h2 : inB b 0 1440
    · exact .inr (.inl ⟨rfl, rfl, by rw [h1, h2] at key; exact key⟩)
    · exact .inr (.inr ⟨rfl, rfl, by rw [h1, h2] at key; show vSpan a b = _; simpa using key⟩)
attribute [irreducible] rnd vSpan

end Go.Proofs.YtjmklkhdemolmaaGreatDoor

/- The frame of a law's proof, over any law of this seat: a walk that returns true and turns nothing old gives the row. No condition. -/
namespace Go.Proofs.YtjmklkhdemolmaaGreatDoor
open Go.ChangeShapes Go.WideShapes Go.ChangeAt Go.RowKit Go.Joins Go.Deep

theorem own : ownKnob Tryz.prog.godebug = none := by kernel_rfl
theorem laidOut : laidOutB Tryz.prog = true := by kernel_rfl

theorem trodAll_stays {H : Type} {enc : TypeId × Value → H} {P : Program} (hl : laidOutB P = true) {W W' : World} (hb : Below W.heap.size W W') :
    ∀ {ts : List TypeId} {vs : List Value} {ds : List (DataW H)} {ps : List MemPlace}, (∀ t ∈ ts, P.readableRec t = true ∧ t < P.types.size) →
      DataW.TrodAll enc P W 0 (fun _ => true) true ts vs ds ps → (∀ x ∈ ps, x.block < W.heap.size) →
      DataW.TrodAll enc P W' 0 (fun b => decide (b < W.heap.size)) true ts vs ds ps
  | [], vs, ds, ps, _, h, _ => by
    obtain ⟨rfl, rfl, rfl⟩ := trodAll_nil h
    exact trodAll_mk0
  | t :: ts, vs, ds, ps, hr, h, hlt => by
    obtain ⟨v, vs', d, ds', p, q, rfl, rfl, rfl, h1, h2⟩ := trodAll_cons h
    exact trodAll_cons_mk (Below.trod hl (hr t (by simp)).1 (hr t (by simp)).2 h1 hb fun x hx => hlt x (by simp [hx]))
      (trodAll_stays hl hb (fun t ht => hr t (by simp [ht])) h2 fun x hx => hlt x (by simp [hx]))

theorem enters {f : FuncId} {fn : Func} {c : Code} (hf : Tryz.prog.funcs[f]? = some fn) (hname : (fn.name == "runtime.NumGoroutine") = false) (hb : fn.body = some c) : ∀ args w, (callFunc f args).run Tryz.prog w = .ok (.enter f args) w := by
  intro args w
  have h1 : fn.name ≠ "runtime.NumGoroutine" := by simpa using hname
  simp [callFunc, hf, h1, hb, mark]

theorem kept_trans {a b c : World} (h : Below a.heap.size a b) (k : Below b.heap.size b c) : Below a.heap.size a c := h.trans (k.mono h.size)
theorem kept_alloc {a b : World} (h : Below a.heap.size a b) (o : Obj) : Below a.heap.size a (b.alloc o) := h.alloc h.size o
theorem kept_drew {a b : World} (h : Below a.heap.size a b) : Below a.heap.size a b.drew := h.drew
theorem kept_drewN {a b : World} (h : Below a.heap.size a b) (n : Nat) : Below a.heap.size a (b.drewN n) := ⟨h.os, h.tape, h.output, h.size, h.block⟩
theorem kept_set {a b : World} (h : Below a.heap.size a b) {p : Addr} (hp : a.heap.size ≤ p.block) (u : Value) : Below a.heap.size a (b.setCell p u) := h.setCell hp u
theorem bcell {W w1 : World} (hb : Below W.heap.size W w1) : (∀ b o, b < W.heap.size → w1.cell? ⟨b, o, none⟩ = W.cell? ⟨b, o, none⟩) ∧ (∀ b o, b < W.heap.size → w1.frozen? ⟨b, o, none⟩ = W.frozen? ⟨b, o, none⟩) :=
  ⟨fun b o h => hb.cell (p := ⟨b, o, none⟩) h, fun b o h => hb.frozen (p := ⟨b, o, none⟩) h⟩

/-- What a law's walk is handed: its arguments as they were read, and the reach. -/
structure Opened {H : Type} (enc : TypeId × Value → H) (fn : Func) (W : World) (base : Nat) (args : Array Value) (ds : List (DataW H)) (p : List MemPlace) : Prop where
  val : ∀ (j : Nat) t v, fn.params[j]? = some t → args[j]? = some v → Value.okWide Tryz.prog W .any base t v
  all : DataW.TrodAll enc Tryz.prog W 0 (fun _ => true) true fn.params.toList args.toList ds p
  lt : ∀ x ∈ p, x.block < W.heap.size
  sized : (DataW.weightsEach Tryz.prog fn.params.toList ds).all (· ≤ reachBytes) = true

def Truly (W : World) (e : Ending) (W' : World) : Prop := e = .returned (.bool true) ∧ Below W.heap.size W W'

set_option maxRecDepth 100000 in
theorem law_lifted {os : Os} {H : Type} {enc : TypeId × Value → H} {f : FuncId} {fn : Func} {s : ChangeSpec} (started : os.Started)
    (noInit : Tryz.prog.inits.idxOf? f = none) (hfn : Tryz.prog.funcs[f]? = some fn)
    (wit : ∃ (w : World) (tape : Tape) (i : Input), w.os = os ∧ (w.forCall tape i).Shaped Tryz.checked.prog ∧ i.vars = [] ∧ Input.okWide Tryz.checked.prog (w.forCall tape i) .any w.heap.size f i ∧
      s.pre6 enc Tryz.checked.prog fn [] false (w.forCall tape i).memory i.args ∧ ({} : Assume).holds Tryz.checked.prog (lone (Frame.enter Tryz.checked.prog f i.args .normal) [] (w.forCall tape i)))
    (hvars : s.vars = []) (hvt : s.plain.varTypes Tryz.prog = []) (hres : fn.resultTypes = #[4])
    (hpar : ∀ t ∈ fn.params.toList, Tryz.prog.readableRec t = true ∧ t < Tryz.prog.types.size)
    (hspec : ∀ ds : List (DataW H), ds.length = fn.params.toList.length → s.fn H (ds ++ []) = { results := [.lit (.bool true)], args := ds })
    (walk : ∀ (W : World) (base : Nat) (args : Array Value) (ds : List (DataW H)) (p : List MemPlace), Opened enc fn W base args ds p → Calls Tryz.prog f args W (Truly W)) :
    ReturnsInHanded {} Tryz.checked os f .any (s.pre6 enc Tryz.prog fn [] false) (s.post enc Tryz.prog fn false true false false) := by
  refine returnsInHanded_of_change_sized (C := Tryz.checked) own started noInit hfn wit ?_
  intro W base args ds gs before hval0 hW _ hsz0 _
  have hlt := hW.lt
  have hW' := hW
  obtain ⟨p, q, hA, hV, rfl, _, _⟩ := hW
  rw [hvars] at hV
  obtain ⟨rfl, rfl⟩ := trodVars_none hV
  have hlen : ds.length = fn.params.toList.length := by
    have : ∀ {ts : List TypeId} {vs : List Value} {ds : List (DataW H)} {ps : List MemPlace}, DataW.TrodAll enc Tryz.checked.prog W 0 (fun _ => true) true ts vs ds ps → ds.length = ts.length := by
      intro ts
      induction ts with
      | nil => intro vs ds ps h; obtain ⟨rfl, rfl, rfl⟩ := trodAll_nil h; rfl
      | cons t ts ih =>
        intro vs ds ps h
        obtain ⟨v, vs', d, ds', p, q, rfl, rfl, rfl, h1, h2⟩ := trodAll_cons h
        simp [ih h2]
    exact this hA
  have hsz : (DataW.weightsEach Tryz.prog fn.params.toList ds).all (· ≤ reachBytes) = true := by
    have e1 : s.plain.varTypes Tryz.checked.prog = [] := hvt
    rw [e1, List.append_nil, List.append_nil] at hsz0
    exact hsz0
  simp only [List.append_nil] at hlt
  refine (walk W base args ds p ⟨hval0, hA, hlt, hsz⟩).mono fun e W' ⟨he, hb⟩ => ?_
  subst he
  refine ⟨_, rfl, ds, [], p ++ [], [] ++ [], p, [], hW', ?_, ?_, ?_, hb.frame _, fun h => by cases h⟩
  · rw [hspec ds hlen, hres]
    exact trodAll_cons_mk (shut_bool Tryz.underlying4 _) trodAll_mk0
  · rw [hspec ds hlen]
    exact trodAll_stays laidOut hb hpar hA hlt
  · rw [hspec ds hlen, hvars]
    rfl
end Go.Proofs.YtjmklkhdemolmaaGreatDoor

/- Slices that are read: what a walk needs to know of them, and how that is carried from world to world. No program. -/
namespace Go.Proofs.YtjmklkhdemolmaaGreatDoor
open Go.RowKit Go.Deep

/-- From cell 'off' of block g on there are n cells, cell i holding 'f i'. -/
def Row (w : World) (g off n : Nat) (f : Nat → Value) : Prop := g < w.heap.size ∧ ∀ i, i < n → w.cell? ⟨g, off + i, none⟩ = some (f i)
/-- v is a slice of n elements of k cells each, cell i holding 'f i'. -/
def Sl (w : World) (v : Value) (k n : Nat) (f : Nat → Value) : Prop :=
  n ≤ 17592186044416 ∧ ∃ ao cap, v = .slice ao n cap ∧ (n = 0 ∨ ∃ g off, ao = some ⟨g, off, none⟩ ∧ Row w g off (n * k) f)

theorem Row.cell {w : World} {g off n : Nat} {f : Nat → Value} (h : Row w g off n f) {i : Nat} (hi : i < n) : w.cell? ⟨g, off + i, none⟩ = some (f i) := h.2 i hi
theorem Row.kept {w w' : World} {g off n : Nat} {f : Nat → Value} (h : Row w g off n f) (hb : Below w.heap.size w w') : Row w' g off n f :=
  ⟨Nat.lt_of_lt_of_le h.1 hb.size, fun i hi => (hb.cell (p := ⟨g, off + i, none⟩) h.1).trans (h.2 i hi)⟩
theorem Row.far {w w' : World} {g off n : Nat} {f : Nat → Value} {row : Option Nat} (h : Row w g off n f) (hg : w.grownBy w' row) (hne : some g ≠ row) : Row w' g off n f :=
  ⟨Nat.lt_of_lt_of_le h.1 hg.size, fun i hi => (World.cell?_of_block (a := ⟨g, off + i, none⟩) (hg.block g h.1 hne)).trans (h.2 i hi)⟩
theorem Row.congr {w : World} {g off n : Nat} {f f' : Nat → Value} (h : Row w g off n f) (e : ∀ i, i < n → f i = f' i) : Row w g off n f' :=
  ⟨h.1, fun i hi => by rw [← e i hi]; exact h.2 i hi⟩
theorem Row.sub {w : World} {g off n : Nat} {f : Nat → Value} (h : Row w g off n f) {a m : Nat} (hm : a + m ≤ n) : Row w g (off + a) m (fun i => f (a + i)) :=
  ⟨h.1, fun i hi => by rw [Nat.add_assoc]; exact h.2 (a + i) (by omega)⟩
theorem Row.of_rowIs {w : World} {g n : Nat} {t : TypeId} {f : Nat → Value} (h : w.rowIs g t n f) : Row w g 0 n f :=
  ⟨h.lt, fun i hi => by rw [Nat.zero_add]; exact h.cell hi⟩
theorem Row.of_own {w : World} {base g n cap k : Nat} {e : TypeId} {xs : List Value} (h : w.ownsRow base e k (.slice (some ⟨g, 0, none⟩) n cap) n xs) : Row w g 0 (n * k) (fun j => xs.getD j undef) := by
  have hlt := (h.lt g rfl).2
  refine ⟨hlt, fun i hi => ?_⟩
  rw [Nat.zero_add, h.cellAt i hi]
  have := h.1
  simp [List.getD, List.getElem?_eq_getElem (show i < xs.length by omega)]

theorem Sl.kept {w w' : World} {v : Value} {k n : Nat} {f : Nat → Value} (h : Sl w v k n f) (hb : Below w.heap.size w w') : Sl w' v k n f := by
  obtain ⟨hn, ao, cap, hv, h⟩ := h
  refine ⟨hn, ao, cap, hv, ?_⟩
  rcases h with h | ⟨g, off, ha, hr⟩
  · exact .inl h
  · exact .inr ⟨g, off, ha, hr.kept hb⟩
theorem Sl.far {w w' : World} {v : Value} {k n : Nat} {f : Nat → Value} {row : Option Nat} (h : Sl w v k n f) (hg : w.grownBy w' row) (hne : ∀ b, v.ownBlock = some b → some b ≠ row) : Sl w' v k n f := by
  obtain ⟨hn, ao, cap, rfl, h⟩ := h
  refine ⟨hn, ao, cap, rfl, ?_⟩
  rcases h with h | ⟨g, off, rfl, hr⟩
  · exact .inl h
  · exact .inr ⟨g, off, rfl, hr.far hg (hne g rfl)⟩
theorem Sl.congr {w : World} {v : Value} {k n : Nat} {f f' : Nat → Value} (h : Sl w v k n f) (e : ∀ i, i < n * k → f i = f' i) : Sl w v k n f' := by
  obtain ⟨hn, ao, cap, hv, h⟩ := h
  refine ⟨hn, ao, cap, hv, ?_⟩
  rcases h with h | ⟨g, off, ha, hr⟩
  · exact .inl h
  · exact .inr ⟨g, off, ha, hr.congr e⟩
theorem Sl.of_row {w : World} {g off n cap k : Nat} {f : Nat → Value} (hn : n ≤ 17592186044416) (h : Row w g off (n * k) f) : Sl w (.slice (some ⟨g, off, none⟩) n cap) k n f :=
  ⟨hn, _, _, rfl, .inr ⟨g, off, rfl, h⟩⟩
theorem Sl.of_own {w : World} {base n k : Nat} {e : TypeId} {v : Value} {xs : List Value} (hn : n ≤ 17592186044416) (h : w.ownsRow base e k v n xs) : Sl w v k n (fun j => xs.getD j undef) := by
  rcases h.2 with ⟨rfl, rfl⟩ | ⟨g, cap, cur, rfl, _⟩
  · exact ⟨by omega, none, 0, rfl, .inl rfl⟩
  · exact ⟨hn, _, _, rfl, .inr ⟨g, 0, rfl, Row.of_own h⟩⟩

theorem grown_of_below {w w' : World} (h : Below w.heap.size w w') (row : Option Nat) : w.grownBy w' row := ⟨h.os, h.tape, h.output, h.size, fun i hi _ => h.block i hi⟩
theorem below_of_grown {w w' : World} {row : Option Nat} {B : Nat} (h : w.grownBy w' row) (hB : B ≤ w.heap.size) (hr : ∀ k, row = some k → B ≤ k) : Below B w w' :=
  (Below.refl B w).grown h hB hr

/-! ### Slices that may be written -/
/-- The row holds f below k, and F from k on. -/
def over (k : Nat) (f F : Nat → Value) : Nat → Value := fun j => if j < k then f j else F j
theorem over_zero (f F : Nat → Value) (j : Nat) : over 0 f F j = F j := by simp [over]
theorem over_lt {k : Nat} {f F : Nat → Value} {j : Nat} (h : j < k) : over k f F j = f j := by simp [over, h]
theorem over_set {w : World} {b : Nat} {t : TypeId} {N k : Nat} {f F : Nat → Value} {u : Value} (h : w.rowIs b t N (over k f F)) (hu : u = f k) : (w.setCell ⟨b, k, none⟩ u).rowIs b t N (over (k + 1) f F) :=
  (h.set k u).congr fun i _ => by
    simp only [over, hu]
    by_cases e : i = k
    · subst e; simp
    · by_cases e2 : i < k
      · simp [e, e2, show i < k + 1 by omega]
      · simp [e, e2, show ¬ i < k + 1 by omega]

/-- v is a slice of n elements of k cells, nil or in a row of one's own. -/
def Mine (w : World) (v : Value) (k n : Nat) : Prop :=
  n ≤ 17592186044416 ∧ ∃ ao cap, v = .slice ao n cap ∧ (n = 0 ∨ ∃ g t N F, ao = some ⟨g, 0, none⟩ ∧ w.rowIs g t N F ∧ n * k ≤ N)
theorem Mine.kept {w w' : World} {v : Value} {k n : Nat} (h : Mine w v k n) (hb : Below w.heap.size w w') : Mine w' v k n := by
  obtain ⟨hn, ao, cap, rfl, h⟩ := h
  refine ⟨hn, ao, cap, rfl, ?_⟩
  rcases h with h | ⟨g, t, N, F, rfl, hr, hN⟩
  · exact .inl h
  · exact .inr ⟨g, t, N, F, rfl, hr.of_block (hb.block g hr.lt), hN⟩
theorem Mine.far {w w' : World} {v : Value} {k n : Nat} {row : Option Nat} (h : Mine w v k n) (hg : w.grownBy w' row) (hne : ∀ b, v.ownBlock = some b → some b ≠ row) : Mine w' v k n := by
  obtain ⟨hn, ao, cap, rfl, h⟩ := h
  refine ⟨hn, ao, cap, rfl, ?_⟩
  rcases h with h | ⟨g, t, N, F, rfl, hr, hN⟩
  · exact .inl h
  · exact .inr ⟨g, t, N, F, rfl, hr.of_block (hg.block g hr.lt (hne g rfl)), hN⟩
theorem Mine.of_row {w : World} {g n cap k N : Nat} {t : TypeId} {F : Nat → Value} (hn : n ≤ 17592186044416) (h : w.rowIs g t N F) (hN : n * k ≤ N) : Mine w (.slice (some ⟨g, 0, none⟩) n cap) k n :=
  ⟨hn, _, _, rfl, .inr ⟨g, t, N, F, rfl, h, hN⟩⟩
theorem Mine.of_own {w : World} {base n k : Nat} {e : TypeId} {v : Value} {xs : List Value} (hn : n ≤ 17592186044416) (h : w.ownsRow base e k v n xs) : Mine w v k n := by
  rcases h.2 with ⟨rfl, rfl⟩ | ⟨g, cap, cur, rfl, _, hh, hnc, _, hcs, _⟩
  · exact ⟨by omega, none, 0, rfl, .inl rfl⟩
  · exact ⟨hn, _, _, rfl, .inr ⟨g, e, cap * k, fun j => cur.getD j undef, rfl, ⟨cur, hh, hcs, fun i hi => by rw [← hcs] at hi; simp [Array.getD, hi]⟩, Nat.mul_le_mul_right _ hnc⟩⟩
/-- The marks q, q + 1, .. -/
def marks (q : Int) : Nat → Value := fun j => .int .i64 (q + j)

theorem grown_set {W wr : World} {g : Nat} (h : W.grownBy wr (some g)) (j : Nat) (u : Value) : W.grownBy (wr.setCell ⟨g, j, none⟩ u) (some g) :=
  ⟨h.os, h.tape, h.output, by simpa [World.setCell] using h.size, fun i hi hne => (Below.heap_setCell wr ⟨g, j, none⟩ u i (fun e => hne (by rw [e]))).trans (h.block i hi hne)⟩

/-! ### Slices that are appended to -/
def cellsN (f : Nat → Value) (m : Nat) : List Value := (List.range m).map f
theorem cellsN_getD {f : Nat → Value} {m j : Nat} (h : j < m) : (cellsN f m).getD j undef = f j := by simp [cellsN, List.getD, List.getElem?_range h]
theorem cellsN_succ (f : Nat → Value) (m : Nat) : cellsN f (m + 1) = cellsN f m ++ [f m] := by simp [cellsN, List.range_succ]
theorem cellsN_congr {f f' : Nat → Value} {m : Nat} (h : ∀ i, i < m → f i = f' i) : cellsN f m = cellsN f' m := by
  apply List.map_congr_left
  intro i hi
  exact h i (by simpa using hi)
/-- v is nil or in a block from B on, and holds n elements of k cells: f. -/
def Out (w : World) (B : Nat) (e : TypeId) (k : Nat) (v : Value) (n : Nat) (f : Nat → Value) : Prop := w.ownsRow B e k v n (cellsN f (n * k))
theorem Out.row {w : World} {B k n : Nat} {e : TypeId} {v : Value} {f : Nat → Value} (h : Out w B e k v n f) : w.ownsRow B e k v n (cellsN f (n * k)) := h
theorem Out.nil (w : World) (B : Nat) (e : TypeId) (k : Nat) (f : Nat → Value) : Out w B e k (.slice none 0 0) 0 f := by
  unfold Out; rw [Nat.zero_mul]; exact World.ownsRow_nil w B e k
theorem Out.empty (w : World) (e : TypeId) (k : Nat) (f : Nat → Value) (B : Nat) (hB : B ≤ w.heap.size) : Out (w.alloc (.cells #[] e)) B e k (.slice (some ⟨w.heap.size, 0, none⟩) 0 0) 0 f := by
  unfold Out; rw [Nat.zero_mul]; exact World.ownsRow_made w #[] 0 hB (by omega) (by simp)
theorem Out.sl {w : World} {B k n : Nat} {e : TypeId} {v : Value} {f : Nat → Value} (h : Out w B e k v n f) (hn : n ≤ 17592186044416) : Sl w v k n f :=
  (Sl.of_own hn h).congr fun _ hi => cellsN_getD hi
theorem Out.mine {w : World} {B k n : Nat} {e : TypeId} {v : Value} {f : Nat → Value} (h : Out w B e k v n f) (hn : n ≤ 17592186044416) : Mine w v k n := Mine.of_own hn h
theorem Out.base {w : World} {B k n : Nat} {e : TypeId} {v : Value} {f : Nat → Value} (h : Out w B e k v n f) : ∀ b, v.ownBlock = some b → B ≤ b ∧ b < w.heap.size := World.ownsRow.lt h
theorem Out.kept {w w' : World} {B k n : Nat} {e : TypeId} {v : Value} {f : Nat → Value} (h : Out w B e k v n f) (hb : Below w.heap.size w w') : Out w' B e k v n f :=
  World.ownsRow.kept (row := none) h (grown_of_below hb none) (by cases hv : v.ownBlock <;> simp)
theorem Out.snoc1 {w : World} {B n : Nat} {e : TypeId} {v : Value} {f : Nat → Value} {u : Value} (h : w.ownsRow B e 1 v (n + 1) (cellsN f (n * 1) ++ [u])) (hu : u = f n) : Out w B e 1 v (n + 1) f := by
  unfold Out; rw [show (n + 1) * 1 = n + 1 by omega, cellsN_succ, ← hu]; rw [Nat.mul_one] at h; exact h
theorem Out.snoc2 {w : World} {B n : Nat} {e : TypeId} {v : Value} {f : Nat → Value} {u x : Value} (h : w.ownsRow B e 2 v (n + 1) (cellsN f (n * 2) ++ [u, x])) (hu : u = f (n * 2)) (hx : x = f (n * 2 + 1)) : Out w B e 2 v (n + 1) f := by
  unfold Out; rw [show (n + 1) * 2 = n * 2 + 1 + 1 by omega, cellsN_succ, cellsN_succ, ← hu, ← hx, List.append_assoc]; exact h
theorem Out.congr {w : World} {B k n : Nat} {e : TypeId} {v : Value} {f f' : Nat → Value} (h : Out w B e k v n f) (e' : ∀ i, i < n * k → f i = f' i) : Out w B e k v n f' := by
  unfold Out; rw [← cellsN_congr e']; exact h
/-- The one new element that 'append(out, x)' lays first. -/
theorem laid_new {w : World} {cs : List Value} {t : TypeId} : ∀ j u, cs[j]? = some u → (w.alloc (.cells cs.toArray t)).cell? ((⟨w.heap.size, 0, none⟩ : Addr).add j) = some u := by
  intro j u hu
  have e : (⟨w.heap.size, 0, none⟩ : Addr).add j = ⟨w.heap.size, j, none⟩ := by unfold Addr.add; split <;> simp_all
  rw [e, cell_of_row (w.alloc (.cells cs.toArray t)) w.heap.size j cs.toArray t (0, 0) (heap_alloc_new w _)]
  simpa using hu
theorem below_of_append {W wr w1 : World} {x : Obj} {v : Value} {n k : Nat} {e : TypeId} {xs : List Value} (hb : Below W.heap.size W wr) (ho : wr.ownsRow W.heap.size e k v n xs) (hg : (wr.alloc x).grownBy w1 v.ownBlock) : Below W.heap.size W w1 :=
  (kept_alloc hb x).grown hg (by have := hb.size; simp; omega) (fun b hbk => (ho.lt b hbk).1)

/-! ### Regions that draw their order and whose callees lay blocks -/
open Go.Sort in
theorem boxed {W : World} {cs : Array Value} {t : TypeId} (i : Nat) (v : Value) (h : cs[i]? = some v) (d : Nat) (os : Array Obj) : (grow (redrawn (W.alloc (.cells cs t)) d) os).cell? ⟨W.heap.size, i, none⟩ = some v :=
  cell_regrown (by rw [World.cell?, show (W.alloc (.cells cs t)).heap[W.heap.size]? = some (.cells cs t (0, 0)) from heap_alloc_new W _]; simpa using h) d os

open Go.Sort in
theorem below_of_regrown {W w2 : World} (h : ∃ p : Regrown, w2 = grow (redrawn W p.d) p.os) : Below W.heap.size W w2 := by
  obtain ⟨p, rfl⟩ := h
  exact below_regrown _ _ _
open Go.Sort in
theorem Calls.regrown_same {P : Program} {f : FuncId} {args : Array Value} {w : World} {d : Nat} {os : Array Obj} {v : Value}
    (h : Calls P f args (grow (redrawn w d) os) fun e w' => e = .returned v ∧ grow (redrawn w d) os = w') : Calls P f args (grow (redrawn w d) os) fun e w'' => e = .returned v ∧ ∃ p : Regrown, w'' = grow (redrawn w p.d) p.os :=
  Go.Calls.regrown_of (h.mono fun _ _ ⟨he, hw⟩ => ⟨he, by rw [← hw]; exact Below.refl _ _⟩)

end Go.Proofs.YtjmklkhdemolmaaGreatDoor

/- Contracts of the small functions. -/
namespace Go.Proofs.YtjmklkhdemolmaaGreatDoor
open Go.RowKit

theorem i_within (n a b : Int) (W : World) : Calls Tryz.prog 48 #[.int .i64 n, .int .i64 a, .int .i64 b] W fun e W' => e = .returned (.bool (inB n a b)) ∧ W = W' := by
  by_cases h : a ≤ n <;> by_cases h' : n ≤ b
  all_goals
    go_enter Tryz.func48, Tryz.ntmps48
    go_wp2
    go_ret
    exact ⟨by simp [inB, h, h'], rfl⟩

theorem s_l00In (n a b : Int) (W : World) : Calls Tryz.prog 40 #[.int .i64 n, .int .i64 a, .int .i64 b] W fun e W' => e = .returned (.bool (inB n a b)) ∧ W = W' := by
  by_cases h : a ≤ n <;> by_cases h' : n ≤ b
  all_goals
    go_enter Tryz.func40, Tryz.ntmps40
    go_wp2
    go_ret
    exact ⟨by simp [inB, h, h'], rfl⟩

theorem i_isDay (n : Int) (W : World) : Calls Tryz.prog 37 #[.int .i64 n] W fun e W' => e = .returned (.bool (inB n (0) (36524))) ∧ W = W' := by
  go_enter Tryz.func37, Tryz.ntmps37
  go_wp2_with (go_at_call 48; refine (i_within _ _ _ _).mono ?_; rintro e w' ⟨rfl, rfl⟩)
  go_ret
  exact ⟨rfl, rfl⟩

theorem i_isValue (n : Int) (W : World) : Calls Tryz.prog 51 #[.int .i64 n] W fun e W' => e = .returned (.bool (inB n (-1000000000000) (1000000000000))) ∧ W = W' := by
  go_enter Tryz.func51, Tryz.ntmps51
  go_wp2_with (go_at_call 48; refine (i_within _ _ _ _).mono ?_; rintro e w' ⟨rfl, rfl⟩)
  go_ret
  exact ⟨rfl, rfl⟩

theorem s_l02Day (n : Int) (W : World) : Calls Tryz.prog 21 #[.int .i64 n] W fun e W' => e = .returned (.bool (inB n (0) (36524))) ∧ W = W' := by
  go_enter Tryz.func21, Tryz.ntmps21
  go_wp2_with (go_at_call 40; refine (s_l00In _ _ _ _).mono ?_; rintro e w' ⟨rfl, rfl⟩)
  go_ret
  exact ⟨rfl, rfl⟩

theorem i_ceilDiv (a b : Int) (W : World) (h : 0 ≤ a ∧ a ≤ 1152921504606846976 ∧ 1 ≤ b ∧ b ≤ 1152921504606846976) : Calls Tryz.prog 25 #[.int .i64 a, .int .i64 b] W fun e W' => e = .returned (.int .i64 ((a + b - 1) / b)) ∧ W = W' := by
  obtain ⟨ha, ha', hb, hb'⟩ := h
  go_enter Tryz.func25, Tryz.ntmps25
  go_wp2
  go_ret
  exact ⟨rfl, rfl⟩

end Go.Proofs.YtjmklkhdemolmaaGreatDoor

/- Contracts of the laws' helpers on single structs, and on sizes. -/
namespace Go.Proofs.YtjmklkhdemolmaaGreatDoor
open Go.RowKit Go.Deep

theorem kept_grown {A b c : World} {row : Option Nat} (h : Below A.heap.size A b) (hg : b.grownBy c row) (hr : ∀ k, row = some k → A.heap.size ≤ k) : Below A.heap.size A c := h.trans (below_of_grown hg h.size hr)

/-- The new cells of an append, in whatever world they are laid. -/
theorem laid_at {w : World} {cs : List Value} {t : TypeId} {k : Nat} (hk : w.heap.size = k) : ∀ j u, cs[j]? = some u → (w.alloc (.cells cs.toArray t)).cell? ((⟨k, 0, none⟩ : Addr).add j) = some u := by subst hk; exact laid_new
theorem cell_keep {w w1 : World} {b o : Nat} {v : Value} (hb : Below w.heap.size w w1) (hc : w.cell? ⟨b, o, none⟩ = some v) : w1.cell? ⟨b, o, none⟩ = some v := by
  rw [hb.cell (p := ⟨b, o, none⟩) (World.block_lt_of_cell? w _ hc)]; exact hc
theorem boxed_at {w : World} {cs : Array Value} {t : TypeId} {k i : Nat} {v : Value} (hk : w.heap.size = k) (h : cs[i]? = some v) : (w.alloc (.cells cs t)).cell? ⟨k, i, none⟩ = some v := by
  subst hk
  rw [World.cell?, show (w.alloc (.cells cs t)).heap[w.heap.size]? = some (.cells cs t (0, 0)) from heap_alloc_new w _]
  simpa using h
theorem Out.base_le {w : World} {B B' k n : Nat} {e : TypeId} {v : Value} {f : Nat → Value} (h : Out w B' e k v n f) (hB : B ≤ B') : Out w B e k v n f := by
  refine ⟨h.1, ?_⟩
  rcases h.2 with h2 | ⟨g, cap, cur, h3, h4, h5⟩
  · exact .inl h2
  · exact .inr ⟨g, cap, cur, h3, Nat.le_trans hB h4, h5⟩
theorem Out.opened {w : World} {B k n : Nat} {e : TypeId} {v : Value} {f : Nat → Value} (h : Out w B e k v n f) (hn : 0 < n * k) : ∃ g cap, v = .slice (some ⟨g, 0, none⟩) n cap ∧ B ≤ g ∧ Row w g 0 (n * k) f := by
  have hh := h
  rcases h.2 with ⟨rfl, h2⟩ | ⟨g, cap, cur, rfl, _⟩
  · rw [h2, Nat.zero_mul] at hn; omega
  · exact ⟨g, cap, rfl, (World.ownsRow.lt hh g rfl).1, (Row.of_own hh).congr fun i hi => cellsN_getD hi⟩

end Go.Proofs.YtjmklkhdemolmaaGreatDoor

/- Names, as the program and the reference ask them; the order of texts. -/
namespace Go.Proofs.YtjmklkhdemolmaaGreatDoor
open Go.RowKit Go.Deep
set_option linter.unusedVariables false

/-- Byte k of a text. -/
def byt (s : ByteArray) (k : Nat) : Int := ((s.data.getD k 0).toNat : Int)
theorem byt_bd (s : ByteArray) (k : Nat) : 0 ≤ byt s k ∧ byt s k ≤ 255 := by
  unfold byt
  have := (s.data.getD k 0).toNat_lt
  omega
theorem byt_at {s : ByteArray} {k : Nat} (h : k < s.data.size) : ((s.data[k].toNat : Nat) : Int) = byt s k := by simp [byt, Array.getD]; rw [dif_pos (show k < s.size from h)]
theorem byt_get {s : ByteArray} {k : Nat} (h : k < s.size) : ((s[k].toNat : Nat) : Int) = byt s k := byt_at (s := s) (k := k) h
attribute [irreducible] byt
def smallC (c : Int) : Bool := decide (97 ≤ c ∧ c ≤ 122)
def digitC (c : Int) : Bool := decide (48 ≤ c ∧ c ≤ 57)
def nameAt (s : ByteArray) (k : Nat) : Bool := smallC (byt s k) || (decide (0 < k) && digitC (byt s k))
theorem nameAt_yes {s : ByteArray} {k : Nat} (h : (97 ≤ byt s k ∧ byt s k ≤ 122) ∨ (48 ≤ byt s k ∧ byt s k ≤ 57 ∧ 0 < k)) : nameAt s k = true := by
  simp only [nameAt, smallC, digitC, Bool.or_eq_true, Bool.and_eq_true, decide_eq_true_eq]; omega
theorem nameAt_no {s : ByteArray} {k : Nat} (h : byt s k < 48 ∨ (57 < byt s k ∧ byt s k < 97) ∨ 122 < byt s k ∨ (byt s k < 97 ∧ k ≤ 0)) : nameAt s k = false := by
  cases e : nameAt s k
  · rfl
  · simp only [nameAt, smallC, digitC, Bool.or_eq_true, Bool.and_eq_true, decide_eq_true_eq] at e; omega
def isName (s : ByteArray) : Bool := decide (1 ≤ s.size ∧ s.size ≤ 10) && allTo (nameAt s) s.size
theorem isName_size {s : ByteArray} (h : s.size < 1 ∨ 10 < s.size) : isName s = false := by
  have : decide (1 ≤ s.size ∧ s.size ≤ 10) = false := by simp; omega
  unfold isName; rw [this]; rfl
theorem isName_no {s : ByteArray} {k : Nat} (hk : k < s.size) (h : nameAt s k = false) : isName s = false := by unfold isName; rw [allTo_no hk h, Bool.and_false]
theorem isName_yes {s : ByteArray} (h1 : 1 ≤ s.size) (h2 : s.size ≤ 10) (h : ∀ i, i < s.size → nameAt s i = true) : isName s = true := by
  have : decide (1 ≤ s.size ∧ s.size ≤ 10) = true := by simp; omega
  unfold isName; rw [allTo_yes h, this]; rfl
theorem isName_out {s : ByteArray} (h : isName s = true) : s.size ≤ 10 := by
  unfold isName at h
  simp only [Bool.and_eq_true, decide_eq_true_eq] at h
  exact h.1.2
attribute [irreducible] isName nameAt

theorem i_IsName (s : ByteArray) (W : World) (hs : s.size ≤ 140737488351232) : Calls Tryz.prog 47 #[.string s] W fun e W' => e = .returned (.bool (isName s)) ∧ Below W.heap.size W W' := by
  have hcv := fun w => run_bytes_of_string (P := Tryz.prog) w 9 22 5 s Tryz.underlying9 Tryz.underlying22 Tryz.underlying5
  have HCell : Hid (∀ cap k, k < s.size → ((W.alloc (.cells (bytesRow s cap) 5 ((bytesRow s cap).size, (bytesRow s cap).size + 1))).drew).cell? ⟨W.heap.size, k, none⟩ = some (.int .u8 (byt s k))) := fun cap k hk => by
    have h1 := bytesRow_at s cap k hk
    rw [byt_at hk] at h1
    rw [World.cell?_drew, World.cell?_alloc_mark]
    exact h1
  have HNo := Lib.hid (fun k => isName_no (s := s) (k := k))
  have HYes := Lib.hid (isName_yes (s := s))
  have HA := Lib.hid (fun k => nameAt_yes (s := s) (k := k))
  have HB := Lib.hid (fun k => nameAt_no (s := s) (k := k))
  have HBd := Lib.hid (byt_bd s)
  have HSz := Lib.hid (isName_size (s := s))
  generalize nameAt s = nm at *
  generalize isName s = R at *
  rcases (show s.size < 1 ∨ 10 < s.size ∨ (1 ≤ s.size ∧ s.size ≤ 10) by omega) with h | h | ⟨h, h'⟩
  · have hR := Lib.hid (HSz.out (.inl h))
    go_enter Tryz.func47, Tryz.ntmps47
    go_wp2
    go_ret
    exact ⟨by rw [hR.out]; rfl, (by repeat (first | assumption | exact Below.refl _ _ | refine kept_drew ?_ | refine kept_drewN ?_ _ | refine kept_alloc ?_ _ | refine kept_set ?_ ?_ _ | (simp; done) | (simp; omega) | refine kept_trans ?_ (by assumption)))⟩
  · have hR := Lib.hid (HSz.out (.inr h))
    go_enter Tryz.func47, Tryz.ntmps47
    go_wp2
    go_ret
    exact ⟨by rw [hR.out]; rfl, (by repeat (first | assumption | exact Below.refl _ _ | refine kept_drew ?_ | refine kept_drewN ?_ _ | refine kept_alloc ?_ _ | refine kept_set ?_ ?_ _ | (simp; done) | (simp; omega) | refine kept_trans ?_ (by assumption)))⟩
  · go_enter Tryz.func47, Tryz.ntmps47
    go_wp2
    go_loop [18] (fun i => ∃ k : Nat, k ≤ s.size ∧ i = .int .i64 k ∧ Hid (∀ i, i < k → nm i = true)) (fun i => s.size - (intOf i).toNat)
    case atStart => exact ⟨0, Nat.zero_le _, rfl, fun i hi => absurd hi (by omega)⟩
    case round =>
      obtain ⟨k, hk, rfl, hno⟩ := hrel
      by_cases hlt : k < s.size
      · have hc := HCell.out (grownCap W s.size 0 5) k hlt
        have hb := HBd.out k
        have hA := Lib.hid (HA.out k)
        have hB := Lib.hid (HB.out k)
        have hN := Lib.hid (HNo.out k hlt)
        clear HCell HA HB HBd HNo HYes HSz hcv
        generalize byt s k = c at *
        have hk10 : k ≤ 10 := by omega
        have GOOD : Hid (nm k = true → ∀ i, i < k + 1 → nm i = true) := fun h i hi => by
          by_cases e : i = k
          · rw [e]; exact h
          · exact hno.out i (by omega)
        rcases (show c < 48 ∨ (48 ≤ c ∧ c ≤ 57) ∨ (57 < c ∧ c < 97) ∨ (97 ≤ c ∧ c ≤ 122) ∨ 122 < c by omega) with h1 | ⟨h1, h2⟩ | ⟨h1, h2⟩ | ⟨h1, h2⟩ | h1
        · have d1 : decide (97 ≤ c) = false := by simp; omega
          have d2 : decide (c ≤ 122) = true := by simp; omega
          have d3 : decide (48 ≤ c) = false := by simp; omega
          have d4 : decide (c ≤ 57) = true := by simp; omega
          rcases (show k ≤ 0 ∨ 0 < k by omega) with h3 | h3
          · have hR := Lib.hid (hN.out (hB.out (by omega)))
            clear GOOD hA hB hN
            have hz : (k == 0) = true := by simp; omega
            go_wp2
            go_ret
            exact ⟨by rw [hR.out]; rfl, kept_drew (kept_alloc (Below.refl _ _) _)⟩
          · have hR := Lib.hid (hN.out (hB.out (by omega)))
            clear GOOD hA hB hN
            have hz : (k == 0) = false := by simp; omega
            go_wp2
            go_ret
            exact ⟨by rw [hR.out]; rfl, kept_drew (kept_alloc (Below.refl _ _) _)⟩
        · have d1 : decide (97 ≤ c) = false := by simp; omega
          have d2 : decide (c ≤ 122) = true := by simp; omega
          have d3 : decide (48 ≤ c) = true := by simp; omega
          have d4 : decide (c ≤ 57) = true := by simp; omega
          rcases (show k ≤ 0 ∨ 0 < k by omega) with h3 | h3
          · have hR := Lib.hid (hN.out (hB.out (by omega)))
            clear GOOD hA hB hN
            have hz : (k == 0) = true := by simp; omega
            go_wp2
            go_ret
            exact ⟨by rw [hR.out]; rfl, kept_drew (kept_alloc (Below.refl _ _) _)⟩
          · have hG := Lib.hid (GOOD.out (hA.out (by omega)))
            clear GOOD hA hB hN
            have hz : (k == 0) = false := by simp; omega
            go_wp2
            go_round
            case rel => exact ⟨k + 1, by omega, by go_num, hG⟩
            case measure => simp [intOf]; omega
        · have d1 : decide (97 ≤ c) = false := by simp; omega
          have d2 : decide (c ≤ 122) = true := by simp; omega
          have d3 : decide (48 ≤ c) = true := by simp; omega
          have d4 : decide (c ≤ 57) = false := by simp; omega
          rcases (show k ≤ 0 ∨ 0 < k by omega) with h3 | h3
          · have hR := Lib.hid (hN.out (hB.out (by omega)))
            clear GOOD hA hB hN
            have hz : (k == 0) = true := by simp; omega
            go_wp2
            go_ret
            exact ⟨by rw [hR.out]; rfl, kept_drew (kept_alloc (Below.refl _ _) _)⟩
          · have hR := Lib.hid (hN.out (hB.out (by omega)))
            clear GOOD hA hB hN
            have hz : (k == 0) = false := by simp; omega
            go_wp2
            go_ret
            exact ⟨by rw [hR.out]; rfl, kept_drew (kept_alloc (Below.refl _ _) _)⟩
        · have d1 : decide (97 ≤ c) = true := by simp; omega
          have d2 : decide (c ≤ 122) = true := by simp; omega
          have d3 : decide (48 ≤ c) = true := by simp; omega
          have d4 : decide (c ≤ 57) = false := by simp; omega
          have hG := Lib.hid (GOOD.out (hA.out (by omega)))
          clear GOOD hA hB hN
          go_wp2
          go_round
          case rel => exact ⟨k + 1, by omega, by go_num, hG⟩
          case measure => simp [intOf]; omega
        · have d1 : decide (97 ≤ c) = true := by simp; omega
          have d2 : decide (c ≤ 122) = false := by simp; omega
          have d3 : decide (48 ≤ c) = true := by simp; omega
          have d4 : decide (c ≤ 57) = false := by simp; omega
          rcases (show k ≤ 0 ∨ 0 < k by omega) with h3 | h3
          · have hR := Lib.hid (hN.out (hB.out (by omega)))
            clear GOOD hA hB hN
            have hz : (k == 0) = true := by simp; omega
            go_wp2
            go_ret
            exact ⟨by rw [hR.out]; rfl, kept_drew (kept_alloc (Below.refl _ _) _)⟩
          · have hR := Lib.hid (hN.out (hB.out (by omega)))
            clear GOOD hA hB hN
            have hz : (k == 0) = false := by simp; omega
            go_wp2
            go_ret
            exact ⟨by rw [hR.out]; rfl, kept_drew (kept_alloc (Below.refl _ _) _)⟩
      · obtain rfl : k = s.size := by omega
        have hR := Lib.hid (HYes.out h h' hno.out)
        go_wp2
        go_ret
        exact ⟨by rw [hR.out]; rfl, kept_drew (kept_alloc (Below.refl _ _) _)⟩

theorem s_l01Small (c : Int) (W : World) (h : 0 ≤ c ∧ c ≤ 255) : Calls Tryz.prog 63 #[.int .u8 c] W fun e W' => e = .returned (.bool (smallC c)) ∧ W = W' := by
  obtain ⟨h0, h1⟩ := h
  rcases (show c < 97 ∨ (97 ≤ c ∧ c ≤ 122) ∨ 122 < c by omega) with h | ⟨h, h'⟩ | h
  all_goals
    go_enter Tryz.func63, Tryz.ntmps63
    go_wp2
    go_ret
    exact ⟨ret_bool (by simp [smallC] <;> omega), rfl⟩

theorem s_l01Digit (c : Int) (W : World) (h : 0 ≤ c ∧ c ≤ 255) : Calls Tryz.prog 64 #[.int .u8 c] W fun e W' => e = .returned (.bool (digitC c)) ∧ W = W' := by
  obtain ⟨h0, h1⟩ := h
  rcases (show c < 48 ∨ (48 ≤ c ∧ c ≤ 57) ∨ 57 < c by omega) with h | ⟨h, h'⟩ | h
  all_goals
    go_enter Tryz.func64, Tryz.ntmps64
    go_wp2
    go_ret
    exact ⟨ret_bool (by simp [digitC] <;> omega), rfl⟩

end Go.Proofs.YtjmklkhdemolmaaGreatDoor

/- Contracts of the laws' helpers on []int64. -/
namespace Go.Proofs.YtjmklkhdemolmaaGreatDoor
open Go.RowKit Go.Deep

theorem infoInt : (Tryz.prog.info? 2).map (fun i => (i.zero, i.size, i.bytes)) = some (some (.int .i64 0), 1, 8) := by kernel_rfl

/-- The integers z 0, z 1 .. as cells. -/
def ic (z : Nat → Int) : Nat → Value := fun j => .int .i64 (z j)
/-- A row that is filled up to k with f, and holds d behind that. -/
def upTo (k : Nat) (f : Nat → Value) (d : Value) : Nat → Value := fun j => if j < k then f j else d

end Go.Proofs.YtjmklkhdemolmaaGreatDoor

/- A law's arguments, opened to what its walk wants. -/
namespace Go.Proofs.YtjmklkhdemolmaaGreatDoor
open Go.ChangeShapes Go.WideShapes Go.RowKit Go.Deep
set_option maxRecDepth 100000

theorem wf_bd {n : Int} (h : (Lit.int .i64 n).wf = true) : -9223372036854775808 ≤ n ∧ n ≤ 9223372036854775807 := by
  have h1 : IntKind.i64.min = -9223372036854775808 := rfl
  have h2 : IntKind.i64.max = 9223372036854775807 := rfl
  simp only [Lit.wf, Bool.and_eq_true, decide_eq_true_eq] at h
  omega

def vnum : Value → Int | .int _ n => n | _ => 0
def vtxt : Value → ByteArray | .string s => s | _ => ByteArray.empty

theorem weights_at {H : Type} {P : Program} {ts : List TypeId} {ds : List (DataW H)} (h : (DataW.weightsEach P ts ds).all (· ≤ reachBytes) = true) {j : Nat} {t : TypeId} {d : DataW H} (ht : ts[j]? = some t) (hd : ds[j]? = some d) :
    ∀ n ∈ d.weights P t, n ≤ reachBytes := fun n hn => by
  have := List.all_eq_true.1 h _ (DataW.weights_mem_each ht hd n hn)
  simpa using this

section
variable {H : Type} {enc : TypeId × Value → H} {W : World} {base : Nat}

theorem open_sl {t e : TypeId} {k : Nat} {v : Value} {d : DataW H} {p : List MemPlace} (ht : Tryz.prog.underlying t = some (.slice e)) (hk : Tryz.prog.cellsOf e = k) (hk0 : 0 < k) (hby : 8 ≤ Tryz.prog.bytesOf e)
    (hv : Value.okWide Tryz.prog W .any base t v) (h : DataW.Trod enc Tryz.prog W 0 (fun _ => true) true t v d p) (hlt : ∀ x ∈ p, x.block < W.heap.size) (hw : ∀ n ∈ d.weights Tryz.prog t, n ≤ reachBytes) :
    ∃ n f, Sl W v k n f ∧ ∀ i, i < n → ∃ m y, DataW.trod enc Tryz.prog W 0 (fun _ => true) true m e ((List.range k).map fun j => f (i * k + j)) = some y := by
  obtain ⟨a0, len0, cap0, rfl⟩ := okWide_slice ht hv
  obtain ⟨fuel, hf⟩ := h
  rcases open_slice ht hf with ⟨hcs, _⟩ | ⟨a, len, cap, m, n, D, Pl, hcs, _, hl, hm, hmm, hx, hi⟩
  · simp [Value.cells] at hcs
    obtain ⟨rfl, rfl, rfl⟩ := hcs
    exact ⟨0, fun _ => undef, ⟨by omega, _, _, rfl, .inl rfl⟩, fun i hi => by omega⟩
  · simp [Value.cells] at hcs
    obtain ⟨rfl, rfl, rfl⟩ := hcs
    simp only [if_true] at hmm
    subst hmm
    simp only [Prod.mk.injEq] at hx
    obtain ⟨rfl, rfl⟩ := hx
    rw [hk] at hi
    have hsize : len0 ≤ 17592186044416 := by
      have := hw _ (by simp only [DataW.weights, ht]; exact List.mem_cons_self)
      simp only [List.length_map, List.length_range, reachBytes] at this
      have h2 : len0 * 8 ≤ (len0 + (m - len0)) * Tryz.prog.bytesOf e := Nat.mul_le_mul (by omega) hby
      omega
    have hcell : ∀ i, i < len0 → ∀ j, j < k → ∃ u, W.cell? (a.add (i * k + j)) = some u := by
      intro i hil j hj
      obtain ⟨cs', hc, _⟩ := hi i (by omega)
      obtain ⟨_, hcl, hat⟩ := World.cells?_some hc
      have := hat j hj
      rw [← Go.Deep.add_add, this, List.getElem?_eq_getElem (by omega)]
      exact ⟨_, rfl⟩
    refine ⟨len0, fun j => (W.cell? (a.add j)).getD undef, ⟨hsize, _, _, rfl, ?_⟩, ?_⟩
    · by_cases h0 : len0 = 0
      · exact .inl h0
      · obtain ⟨b, off, spot⟩ := a
        obtain ⟨u, hu⟩ := hcell 0 (by omega) 0 hk0
        have hspot : spot = none := by simpa [Addr.add] using World.cell?_spot hu
        subst hspot
        refine .inr ⟨b, off, rfl, hlt (.cell b off) (List.mem_append_left _ (MemPlace.mem_row.2 ⟨0, ?_, by simp⟩)), fun j hj => ?_⟩
        · rw [hk]; exact Nat.mul_pos (by omega) hk0
        · have hd : j / k < len0 := Nat.div_lt_of_lt_mul (by rw [Nat.mul_comm]; exact hj)
          have hm2 := Nat.mod_lt j hk0
          obtain ⟨u, hu⟩ := hcell (j / k) hd (j % k) hm2
          have e1 : j / k * k + j % k = j := by rw [Nat.mul_comm]; exact Nat.div_add_mod j k
          rw [e1] at hu
          have e2 : (⟨b, off, none⟩ : Addr).add j = ⟨b, off + j, none⟩ := by simp [Addr.add]
          rw [e2] at hu
          show W.cell? ⟨b, off + j, none⟩ = some ((W.cell? ((⟨b, off, none⟩ : Addr).add j)).getD undef)
          rw [e2, hu]; rfl
    · intro i hil
      obtain ⟨cs', hc, ht'⟩ := hi i (by omega)
      obtain ⟨_, hcl, hat⟩ := World.cells?_some hc
      have e1 : (List.range k).map (fun j => (W.cell? (a.add (i * k + j))).getD undef) = cs' := by
        apply List.ext_getElem?
        intro j
        by_cases hj : j < k
        · rw [List.getElem?_map, List.getElem?_range hj]
          have := hat j hj
          rw [Go.Deep.add_add] at this
          simp only [Option.map_some, this, List.getElem?_eq_getElem (show j < cs'.length by omega), Option.getD_some]
        · rw [List.getElem?_eq_none (by simpa using hj), List.getElem?_eq_none (by omega)]
      exact ⟨n, _, by rw [e1]; exact ht'⟩

theorem open_ints {v : Value} {d : DataW H} {p : List MemPlace} (hv : Value.okWide Tryz.prog W .any base 25 v) (h : DataW.Trod enc Tryz.prog W 0 (fun _ => true) true 25 v d p) (hlt : ∀ x ∈ p, x.block < W.heap.size) (hw : ∀ n ∈ d.weights Tryz.prog 25, n ≤ reachBytes) :
    ∃ n z, Sl W v 1 n (ic z) ∧ ∀ i, i < n → -9223372036854775808 ≤ z i ∧ z i ≤ 9223372036854775807 := by
  obtain ⟨n, f, hs, he⟩ := open_sl Tryz.underlying25 (k := 1) (by kernel_rfl) (by omega) (of_decide_eq_true (by kernel_rfl)) hv h hlt hw
  have key : ∀ i, i < n → ∃ q, f i = .int .i64 q ∧ (Lit.int .i64 q).wf = true := by
    intro i hi
    obtain ⟨m, y, hy⟩ := he i hi
    obtain ⟨q, e0, -, wq⟩ := DataW.trod_int Tryz.underlying2 hy
    simp at e0
    exact ⟨q, e0, wq⟩
  refine ⟨n, fun i => vnum (f i), hs.congr (fun i hi => ?_), fun i hi => ?_⟩
  · obtain ⟨q, e0, _⟩ := key i (by omega)
    simp [ic, e0, vnum]
  · obtain ⟨q, e0, wq⟩ := key i hi
    show -9223372036854775808 ≤ vnum (f i) ∧ vnum (f i) ≤ 9223372036854775807
    rw [e0]
    exact wf_bd wq
end

end Go.Proofs.YtjmklkhdemolmaaGreatDoor

/- Contracts on slices of structs with a text first: Group. -/
namespace Go.Proofs.YtjmklkhdemolmaaGreatDoor
open Go.RowKit Go.Deep
set_option linter.unusedVariables false
set_option maxRecDepth 100000

/-- Elements of 4 cells, a text first. -/
def gc (a : Nat → ByteArray) (b c d : Nat → Int) : Nat → Value := fun j => if j % 4 = 0 then .string (a (j / 4)) else .int .i64 (if j % 4 = 1 then b (j / 4) else if j % 4 = 2 then c (j / 4) else d (j / 4))
theorem gc0 (a : Nat → ByteArray) (b c d : Nat → Int) (e : Nat) : gc a b c d (e * 4) = .string (a e) := by unfold gc; rw [if_pos (by omega), show (e * 4) / 4 = e by omega]
theorem gc1 (a : Nat → ByteArray) (b c d : Nat → Int) (e : Nat) : gc a b c d (e * 4 + 1) = .int .i64 (b e) := by unfold gc; rw [if_neg (by omega), if_pos (by omega), show (e * 4 + 1) / 4 = e by omega]
theorem gc2 (a : Nat → ByteArray) (b c d : Nat → Int) (e : Nat) : gc a b c d (e * 4 + 2) = .int .i64 (c e) := by unfold gc; rw [if_neg (by omega), if_neg (by omega), if_pos (by omega), show (e * 4 + 2) / 4 = e by omega]
theorem gc3 (a : Nat → ByteArray) (b c d : Nat → Int) (e : Nat) : gc a b c d (e * 4 + 3) = .int .i64 (d e) := by unfold gc; rw [if_neg (by omega), if_neg (by omega), if_neg (by omega), show (e * 4 + 3) / 4 = e by omega]
theorem gccells {w : World} {g off n : Nat} {a : Nat → ByteArray} {b c d : Nat → Int} (h : Row w g off (n * 4) (gc a b c d)) {e : Nat} (he : e < n) :
    w.cell? ⟨g, off + e * 4, none⟩ = some (.string (a e)) ∧ w.cell? ⟨g, off + e * 4 + 1, none⟩ = some (.int .i64 (b e)) ∧ w.cell? ⟨g, off + e * 4 + 2, none⟩ = some (.int .i64 (c e)) ∧ w.cell? ⟨g, off + e * 4 + 3, none⟩ = some (.int .i64 (d e)) := by
  refine ⟨?_, ?_, ?_, ?_⟩
  · rw [h.cell (i := e * 4) (by omega), gc0]
  · have := h.cell (i := e * 4 + 1) (by omega)
    rw [gc1] at this
    exact this
  · have := h.cell (i := e * 4 + 2) (by omega)
    rw [gc2] at this
    exact this
  · have := h.cell (i := e * 4 + 3) (by omega)
    rw [gc3] at this
    exact this

theorem at_getD4 {C : Array Value} {i : Nat} (h : i < C.size) : C[i]? = some ((C[i]?).getD undef) := by rw [Array.getElem?_eq_getElem h]; rfl

end Go.Proofs.YtjmklkhdemolmaaGreatDoor

/- Contracts on slices of structs with a text first: Fare. -/
namespace Go.Proofs.YtjmklkhdemolmaaGreatDoor
open Go.RowKit Go.Deep
set_option linter.unusedVariables false
set_option maxRecDepth 100000

theorem infoFare : (Tryz.prog.info? 32).map (fun i => (i.zero, i.size, i.bytes)) = some (some (.agg #[.string ⟨#[]⟩, .int .i64 0, .int .i64 0, .int .i64 0]), 4, 40) := by kernel_rfl

end Go.Proofs.YtjmklkhdemolmaaGreatDoor

/- A law's string argument, opened. -/
namespace Go.Proofs.YtjmklkhdemolmaaGreatDoor
open Go.ChangeShapes Go.WideShapes Go.RowKit Go.Deep
set_option maxRecDepth 100000

theorem open_str {H : Type} {enc : TypeId × Value → H} {W : World} {base : Nat} {t : TypeId} {v : Value} {d : DataW H} {p : List MemPlace} (ht : Tryz.prog.underlying t = some .string)
    (hv : Value.okWide Tryz.prog W .any base t v) (h : DataW.Trod enc Tryz.prog W 0 (fun _ => true) true t v d p) (hw : ∀ n ∈ d.weights Tryz.prog t, n ≤ reachBytes) :
    ∃ s, v = .string s ∧ d = .lit (.string s.data.toList) ∧ p = [] ∧ s.size ≤ 140737488351232 := by
  obtain ⟨s, rfl, rfl, rfl, -⟩ := Go.ChangeMaps.open_string ht hv h
  refine ⟨s, rfl, rfl, rfl, ?_⟩
  have := hw s.data.toList.length (by simp [DataW.weights])
  simpa [reachBytes] using this

end Go.Proofs.YtjmklkhdemolmaaGreatDoor
