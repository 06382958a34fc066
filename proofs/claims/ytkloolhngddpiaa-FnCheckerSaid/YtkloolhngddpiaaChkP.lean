/- The controller's states as numbers, what is reached from each, and the ways: plain laws, by the kernel. No program. -/
import Derived.WalkKit
namespace Go.Proofs.Ytkloolhngddpiaa
set_option maxRecDepth 100000

/-! A state as a number below 80: 16 * mode + open + 2 * a + 4 * b + 8 * at the end. -/
def cm (c : Nat) : Nat := Nat.div c 16
def co (c : Nat) : Bool := Nat.beq (Nat.mod c 2) 1
def ca (c : Nat) : Bool := Nat.beq (Nat.mod (Nat.div c 2) 2) 1
def cb (c : Nat) : Bool := Nat.beq (Nat.mod (Nat.div c 4) 2) 1
def ce (c : Nat) : Bool := Nat.beq (Nat.mod (Nat.div c 8) 2) 1
def enc (m : Nat) (o a b e : Bool) : Nat := Nat.add (Nat.mul 16 m) (Nat.add (cond o 1 0) (Nat.add (cond a 2 0) (Nat.add (cond b 4 0) (cond e 8 0))))
def alN (m : Nat) (o a b e : Bool) (k : Nat) : Bool :=
  cond (Nat.beq k 1) (Nat.beq m 0 && e && !o) <| cond (Nat.beq k 2) o <| cond (Nat.beq k 3) (Nat.beq m 0 && !o && !a) <| cond (Nat.beq k 4) (Nat.beq m 0 && !o && !b) <|
  cond (Nat.beq k 5) (Nat.beq m 1) <| cond (Nat.beq k 6) (Nat.beq m 2) <| cond (Nat.beq k 7) (Nat.beq m 3) <| cond (Nat.beq k 8) (!Nat.beq m 4) (Nat.beq m 4 && !o)
def rdy (m : Nat) (a b : Bool) : Nat := cond (Nat.beq m 0 && a && b) 1 m
def nxN (m : Nat) (o a b e : Bool) (k : Nat) : Nat :=
  cond (Nat.beq k 1) (enc (rdy m a b) true a b e) <| cond (Nat.beq k 2) (enc (rdy m a b) false a b e) <| cond (Nat.beq k 3) (enc (rdy m true b) o true b e) <| cond (Nat.beq k 4) (enc (rdy m a true) o a true e) <|
  cond (Nat.beq k 5) (enc 2 o false false false) <| cond (Nat.beq k 6) (enc 3 o a b e) <| cond (Nat.beq k 7) (enc (rdy 0 a b) o a b true) <| cond (Nat.beq k 8) (enc 4 o false false e) (enc (rdy (cond e 0 3) a b) o a b e)
def al (c k : Nat) : Bool := alN (cm c) (co c) (ca c) (cb c) (ce c) k
def nx (c k : Nat) : Nat := nxN (cm c) (co c) (ca c) (cb c) (ce c) k

/-! The lists. -/
def nth : List Nat → Nat → Nat
  | [], _ => 0
  | a :: l, i => match i with | 0 => a | i + 1 => nth l i
def hasN : List Nat → Nat → Bool
  | [], _ => false
  | a :: l, y => Nat.beq a y || hasN l y
def idxN : List Nat → Nat → Nat
  | [], _ => 0
  | a :: l, y => cond (Nat.beq a y) 0 (Nat.succ (idxN l y))
def putN (L : List Nat) (y : Nat) : List Nat := cond (hasN L y) L (L ++ [y])
def inS (i : Nat) (L : List Nat) : Nat → List Nat
  | 0 => L
  | j + 1 => cond (al (nth (inS i L j) i) (j + 1)) (putN (inS i L j) (nx (nth (inS i L j) i) (j + 1))) (inS i L j)
def runS (x : Nat) : Nat → List Nat
  | 0 => [x]
  | i + 1 => cond (Nat.blt i (runS x i).length) (inS i (runS x i) 9) (runS x i)
def R (x : Nat) : List Nat := runS x 20
def mvI (L : List Nat) (i : Nat) : Nat → List (Nat × Nat × Nat)
  | 0 => []
  | j + 1 => cond (al (nth L i) (j + 1)) (mvI L i j ++ [(i, j + 1, idxN L (nx (nth L i) (j + 1)))]) (mvI L i j)
def mvS (L : List Nat) : Nat → List (Nat × Nat × Nat)
  | 0 => []
  | i + 1 => mvS L i ++ mvI L i 9
def M (x : Nat) : List (Nat × Nat × Nat) := mvS (R x) (R x).length

/-! The same, each number at once (for the kernel). -/
def forceN {α : Type} (n : Nat) (f : Nat → α) : α := match n with | 0 => f 0 | m + 1 => f (Nat.succ m)
theorem forceN_eq {α : Type} (n : Nat) (f : Nat → α) : forceN n f = f n := by cases n <;> rfl
def forceL {α : Type} : List Nat → (List Nat → α) → α
  | [], k => k []
  | a :: l, k => forceN a fun a => forceL l fun l => k (a :: l)
theorem forceL_eq {α : Type} (l : List Nat) (k : List Nat → α) : forceL l k = k l := by
  induction l generalizing k with
  | nil => rfl
  | cons a l ih => simp [forceL, forceN_eq, ih]
def forceM {α : Type} : List (Nat × Nat × Nat) → (List (Nat × Nat × Nat) → α) → α
  | [], k => k []
  | a :: l, k => forceN a.1 fun x => forceN a.2.1 fun y => forceN a.2.2 fun z => forceM l fun l => k ((x, y, z) :: l)
theorem forceM_eq {α : Type} (l : List (Nat × Nat × Nat)) (k : List (Nat × Nat × Nat) → α) : forceM l k = k l := by
  induction l generalizing k with
  | nil => rfl
  | cons a l ih => simp [forceM, forceN_eq, ih]
def inSF {α : Type} (i : Nat) (L : List Nat) (n : Nat) (k : List Nat → α) : α :=
  match n with
  | 0 => k L
  | j + 1 => inSF i L j fun L => forceN (nth L i) fun c => cond (al c (j + 1)) (forceN (nx c (j + 1)) fun y => cond (hasN L y) (k L) (forceL (L ++ [y]) k)) (k L)
theorem cond_app {α β : Type} (k : α → β) (b : Bool) (x y : α) : (bif b then k x else k y) = k (bif b then x else y) := by cases b <;> rfl
theorem inSF_eq {α : Type} (i : Nat) (L : List Nat) (n : Nat) (k : List Nat → α) : inSF i L n k = k (inS i L n) := by
  induction n generalizing k with
  | zero => rfl
  | succ n ih => simp only [inSF, ih, forceN_eq, forceL_eq, inS, putN, cond_app]
def runSF {α : Type} (x : Nat) (n : Nat) (k : List Nat → α) : α :=
  match n with
  | 0 => k [x]
  | i + 1 => runSF x i fun L => cond (Nat.blt i L.length) (inSF i L 9 k) (k L)
theorem runSF_eq {α : Type} (x n : Nat) (k : List Nat → α) : runSF x n k = k (runS x n) := by
  induction n generalizing k with
  | zero => rfl
  | succ n ih => simp only [runSF, ih, inSF_eq, runS, cond_app]
/-- The two lists, at hand. -/
def withX {α : Type} (x : Nat) (k : List Nat → List (Nat × Nat × Nat) → α) : α := runSF x 20 fun L => forceM (mvS L L.length) fun ms => k L ms
theorem withX_eq {α : Type} (x : Nat) (k : List Nat → List (Nat × Nat × Nat) → α) : withX x k = k (R x) (M x) := by unfold withX; rw [runSF_eq, forceM_eq]; rfl
def all80 (p : Nat → Bool) : Nat → Bool
  | 0 => true
  | n + 1 => p n && all80 p n
theorem all80_out {p : Nat → Bool} {n : Nat} (h : all80 p n = true) : ∀ i, i < n → p i = true := by
  induction n with
  | zero => intro i hi; omega
  | succ n ih =>
    simp only [all80, Bool.and_eq_true] at h
    intro i hi
    by_cases e : i = n
    · rw [e]; exact h.1
    · exact ih h.2 i (by omega)

/-! How far: 0 for none, 1 more than the number else. -/
def setN : List Nat → Nat → Nat → List Nat
  | [], _, _ => []
  | a :: l, i, v => match i with | 0 => v :: l | i + 1 => a :: setN l i v
def rel1 (o : List Nat) (m : Nat × Nat × Nat) : List Nat :=
  cond (Nat.blt 0 (nth o m.2.2) && (Nat.beq (nth o m.1) 0 || Nat.blt (Nat.succ (nth o m.2.2)) (nth o m.1))) (setN o m.1 (Nat.succ (nth o m.2.2))) o
def relN (ms : List (Nat × Nat × Nat)) (o : List Nat) : Nat → List Nat
  | 0 => o
  | n + 1 => ms.foldl rel1 (relN ms o n)
def goal0 (n : Nat) (g : List Nat) : List Nat := g.foldl (fun o k => setN o k 1) (List.replicate n 0)
def far (n : Nat) (ms : List (Nat × Nat × Nat)) (g : List Nat) : List Nat := relN ms (goal0 n g) n

/-! The same in one number. -/
def code : List Nat → Nat
  | [] => 0
  | a :: l => Nat.add a (Nat.mul 64 (code l))
def low : List Nat → Bool
  | [] => true
  | a :: l => Nat.blt a 64 && low l
def digits (o : Nat) : Nat → List Nat
  | 0 => []
  | n + 1 => Nat.mod o 64 :: digits (Nat.div o 64) n
theorem low_cons {a : Nat} {l : List Nat} (h : low (a :: l) = true) : a < 64 ∧ low l = true := by
  simp only [low, Bool.and_eq_true, Nat.blt_eq] at h; exact h
theorem digits_code {l : List Nat} (h : low l = true) : digits (code l) l.length = l := by
  induction l with
  | nil => rfl
  | cons a l ih =>
    have h1 := low_cons h
    show ((a + 64 * code l) % 64 :: digits ((a + 64 * code l) / 64) l.length) = _
    rw [show (a + 64 * code l) % 64 = a by omega, show (a + 64 * code l) / 64 = code l by omega, ih h1.2]
theorem nth_code {l : List Nat} (h : low l = true) (i : Nat) : code l / 64 ^ i % 64 = nth l i := by
  induction l generalizing i with
  | nil => show 0 / 64 ^ i % 64 = 0; simp
  | cons a l ih =>
    have h1 := low_cons h
    cases i with
    | zero => show (a + 64 * code l) / 1 % 64 = a; omega
    | succ i =>
      show (a + 64 * code l) / 64 ^ (i + 1) % 64 = nth l i
      rw [← ih h1.2 i, Nat.pow_succ, Nat.mul_comm (64 ^ i) 64, ← Nat.div_div_eq_div_mul, show (a + 64 * code l) / 64 = code l by omega]
theorem setN_len (l : List Nat) (i v : Nat) : (setN l i v).length = l.length := by
  induction l generalizing i with
  | nil => rfl
  | cons a l ih => cases i with
    | zero => rfl
    | succ i => simp [setN, ih]
theorem low_set {l : List Nat} (h : low l = true) (i : Nat) {v : Nat} (hv : v < 64) : low (setN l i v) = true := by
  induction l generalizing i with
  | nil => rfl
  | cons a l ih =>
    have h1 := low_cons h
    cases i with
    | zero => simp [setN, low, h1.2, hv]
    | succ i => simp [setN, low, h1.1, ih h1.2 i]
theorem code_set {l : List Nat} {i : Nat} (hi : i < l.length) (v : Nat) : code (setN l i v) + nth l i * 64 ^ i = code l + v * 64 ^ i := by
  induction l generalizing i with
  | nil => exact absurd hi (Nat.not_lt_zero _)
  | cons a l ih =>
    cases i with
    | zero =>
      show v + 64 * code l + a * 64 ^ 0 = a + 64 * code l + v * 64 ^ 0
      omega
    | succ i =>
      have := ih (i := i) (by simpa using hi)
      show a + 64 * code (setN l i v) + nth l i * 64 ^ (i + 1) = a + 64 * code l + v * 64 ^ (i + 1)
      rw [Nat.pow_succ, ← Nat.mul_assoc, ← Nat.mul_assoc]
      omega
/-- A move as the powers of its ends. -/
def pw (m : Nat × Nat × Nat) : Nat × Nat := (64 ^ m.1, 64 ^ m.2.2)
def forceP {α : Type} : List (Nat × Nat × Nat) → (List (Nat × Nat) → α) → α
  | [], k => k []
  | a :: l, k => forceN (Nat.pow 64 a.1) fun x => forceN (Nat.pow 64 a.2.2) fun z => forceP l fun l => k ((x, z) :: l)
theorem forceP_eq {α : Type} (l : List (Nat × Nat × Nat)) (k : List (Nat × Nat) → α) : forceP l k = k (l.map pw) := by
  induction l generalizing k with
  | nil => rfl
  | cons a l ih => simp only [forceP, forceN_eq, ih]; rfl
def relW (o : Nat) (ms : List (Nat × Nat)) (k : Nat → Bool) : Bool :=
  match ms with
  | [] => k o
  | m :: ms => forceN (Nat.mod (Nat.div o m.2) 64) fun t => forceN (Nat.mod (Nat.div o m.1) 64) fun f =>
    cond (Nat.blt 0 t && (Nat.beq f 0 || Nat.blt (Nat.succ t) f)) (Nat.blt (Nat.succ t) 64 && forceN (Nat.sub (Nat.add o (Nat.mul (Nat.succ t) m.1)) (Nat.mul f m.1)) fun o => relW o ms k) (relW o ms k)
theorem relW_sound {ms : List (Nat × Nat × Nat)} {k : Nat → Bool} {l : List Nat} (hm : ∀ m ∈ ms, m.1 < l.length) (hl : low l = true) (h : relW (code l) (ms.map pw) k = true) :
    low (ms.foldl rel1 l) = true ∧ k (code (ms.foldl rel1 l)) = true := by
  induction ms generalizing l with
  | nil => exact ⟨hl, h⟩
  | cons m ms ih =>
    simp only [List.map_cons, relW, forceN_eq, pw] at h
    have e1 : Nat.mod (Nat.div (code l) (64 ^ m.2.2)) 64 = nth l m.2.2 := nth_code hl _
    have e2 : Nat.mod (Nat.div (code l) (64 ^ m.1)) 64 = nth l m.1 := nth_code hl _
    rw [e1, e2] at h
    rw [List.foldl_cons]
    cases hc : (Nat.blt 0 (nth l m.2.2) && (Nat.beq (nth l m.1) 0 || Nat.blt (Nat.succ (nth l m.2.2)) (nth l m.1))) with
    | false =>
      have er : rel1 l m = l := by unfold rel1; rw [hc]; rfl
      rw [hc] at h
      rw [er]
      exact ih (fun m' hm' => hm m' (List.mem_cons_of_mem _ hm')) hl h
    | true =>
      have er : rel1 l m = setN l m.1 (Nat.succ (nth l m.2.2)) := by unfold rel1; rw [hc]; rfl
      rw [hc] at h
      simp only [cond_true, Bool.and_eq_true, Nat.blt_eq] at h
      have hcs := code_set (hm m (List.mem_cons_self)) (Nat.succ (nth l m.2.2))
      have ec : Nat.sub (Nat.add (code l) (Nat.mul (Nat.succ (nth l m.2.2)) (64 ^ m.1))) (Nat.mul (nth l m.1) (64 ^ m.1)) = code (setN l m.1 (Nat.succ (nth l m.2.2))) := by
        show code l + Nat.succ (nth l m.2.2) * 64 ^ m.1 - nth l m.1 * 64 ^ m.1 = _
        omega
      rw [ec] at h
      rw [er]
      exact ih (fun m' hm' => by rw [setN_len]; exact hm m' (List.mem_cons_of_mem _ hm')) (low_set hl _ h.1) h.2
def relNW (ms : List (Nat × Nat)) (o : Nat) (n : Nat) (k : Nat → Bool) : Bool :=
  match n with
  | 0 => k o
  | n + 1 => relW o ms fun o' => cond (Nat.beq o' o) (k o) (relNW ms o' n k)
theorem relN_succ' (ms : List (Nat × Nat × Nat)) (o : List Nat) (n : Nat) : relN ms o (n + 1) = relN ms (ms.foldl rel1 o) n := by
  induction n with
  | zero => rfl
  | succ n ih => show ms.foldl rel1 (relN ms o (n + 1)) = _; rw [ih]; rfl
theorem relN_fix {ms : List (Nat × Nat × Nat)} {o : List Nat} (h : ms.foldl rel1 o = o) (n : Nat) : relN ms o n = o := by
  induction n with
  | zero => rfl
  | succ n ih => show ms.foldl rel1 (relN ms o n) = _; rw [ih, h]
theorem foldl_len (ms : List (Nat × Nat × Nat)) (l : List Nat) : (ms.foldl rel1 l).length = l.length := by
  induction ms generalizing l with
  | nil => rfl
  | cons m ms ih =>
    rw [List.foldl_cons, ih]
    unfold rel1
    cases (Nat.blt 0 (nth l m.2.2) && (Nat.beq (nth l m.1) 0 || Nat.blt (Nat.succ (nth l m.2.2)) (nth l m.1))) with
    | false => rfl
    | true => exact setN_len _ _ _
theorem relN_len (ms : List (Nat × Nat × Nat)) (l : List Nat) (n : Nat) : (relN ms l n).length = l.length := by
  induction n with
  | zero => rfl
  | succ n ih => show (ms.foldl rel1 (relN ms l n)).length = _; rw [foldl_len, ih]
theorem code_inj {a b : List Nat} (ha : low a = true) (hb : low b = true) (hl : a.length = b.length) (h : code a = code b) : a = b := by
  rw [← digits_code ha, ← digits_code hb, hl, h]
theorem relNW_sound {ms : List (Nat × Nat × Nat)} {n : Nat} {k : Nat → Bool} {l : List Nat} (hm : ∀ m ∈ ms, m.1 < l.length) (hl : low l = true) (h : relNW (ms.map pw) (code l) n k = true) :
    low (relN ms l n) = true ∧ k (code (relN ms l n)) = true := by
  induction n generalizing l with
  | zero => exact ⟨hl, h⟩
  | succ n ih =>
    have h1 := relW_sound hm hl h
    cases hc : Nat.beq (code (ms.foldl rel1 l)) (code l) with
    | true =>
      rw [hc] at h1
      have he := code_inj h1.1 hl (foldl_len _ _) (Nat.eq_of_beq_eq_true hc)
      rw [relN_fix he]
      exact ⟨hl, h1.2⟩
    | false =>
      rw [hc] at h1
      rw [relN_succ']
      exact ih (fun m hm' => by rw [foldl_len]; exact hm m hm') h1.1 h1.2
def farW (n : Nat) (ms : List (Nat × Nat × Nat)) (g : List Nat) (k : List Nat → Bool) : Bool :=
  (ms.all fun m => Nat.blt m.1 n) && (low (goal0 n g) && forceP ms fun ps => forceN (code (goal0 n g)) fun o => relNW ps o n fun o => forceL (digits o n) k)
theorem goal0_len (n : Nat) (g : List Nat) : (goal0 n g).length = n := by
  unfold goal0
  have : ∀ (g : List Nat) (l : List Nat), (g.foldl (fun o k => setN o k 1) l).length = l.length := by
    intro g
    induction g with
    | nil => intro l; rfl
    | cons a g ih => intro l; rw [List.foldl_cons, ih, setN_len]
  rw [this, List.length_replicate]
theorem farW_sound {n : Nat} {ms : List (Nat × Nat × Nat)} {g : List Nat} {k : List Nat → Bool} (h : farW n ms g k = true) : k (far n ms g) = true := by
  unfold farW at h
  simp only [Bool.and_eq_true, forceP_eq, forceN_eq, forceL_eq, List.all_eq_true, Nat.blt_eq] at h
  have h1 := relNW_sound (fun m hm => by rw [goal0_len]; exact h.1 m hm) h.2.1 h.2.2
  have e := digits_code h1.1
  rw [relN_len, goal0_len] at e
  have h2 := h1.2
  rw [e] at h2
  exact h2

/-! The way: the indices of the moves. -/
def zm : Nat × Nat × Nat := (0, 0, 0)
def nthM : List (Nat × Nat × Nat) → Nat → Nat × Nat × Nat
  | [], _ => zm
  | a :: l, i => match i with | 0 => a | i + 1 => nthM l i
/-- The first move of some to a state. -/
def fstTo (ms : List (Nat × Nat × Nat)) (y : Nat) : Nat := match ms with | [] => 0 | m :: ms => cond (Nat.beq m.2.2 y) 0 (Nat.succ (fstTo ms y))
def pathI (ms : List (Nat × Nat × Nat)) : Nat → Nat → List Nat
  | 0, _ => []
  | f + 1, y => cond (Nat.beq y 0) [] (fstTo ms y :: pathI ms f (nthM ms (fstTo ms y)).1)
def chkI (ms : List (Nat × Nat × Nat)) (y : Nat) : List Nat → Bool
  | [] => Nat.beq y 0
  | b :: P => !Nat.beq y 0 && (Nat.beq (fstTo ms y) b && (Nat.blt b ms.length && chkI ms (nthM ms b).1 P))
/-- The best move from a state: (how many seen, 1 more than the best one's index or 0, its event). -/
def bst1 (fr : List Nat) (y : Nat) (s : Nat × Nat × Nat) (m : Nat × Nat × Nat) : Nat × Nat × Nat :=
  cond (Nat.beq m.1 y && Nat.beq (Nat.succ (nth fr m.2.2)) (nth fr y) && (Nat.beq s.2.1 0 || Nat.blt m.2.1 s.2.2)) (Nat.succ s.1, Nat.succ s.1, m.2.1) (Nat.succ s.1, s.2.1, s.2.2)
def bst (fr : List Nat) (y : Nat) (ms : List (Nat × Nat × Nat)) : Nat × Nat × Nat := ms.foldl (bst1 fr y) (0, 0, 0)
def bstF (fr : List Nat) (y fy : Nat) (i b e : Nat) (ms : List (Nat × Nat × Nat)) : Nat :=
  match ms with
  | [] => b
  | m :: ms => cond (Nat.beq m.1 y && Nat.beq (Nat.succ (nth fr m.2.2)) fy && (Nat.beq b 0 || Nat.blt m.2.1 e)) (forceN (Nat.succ i) fun i => bstF fr y fy i i m.2.1 ms) (forceN (Nat.succ i) fun i => bstF fr y fy i b e ms)
theorem bstF_eq (fr : List Nat) (y : Nat) (ms : List (Nat × Nat × Nat)) (s : Nat × Nat × Nat) : bstF fr y (nth fr y) s.1 s.2.1 s.2.2 ms = (ms.foldl (bst1 fr y) s).2.1 := by
  induction ms generalizing s with
  | nil => rfl
  | cons m ms ih =>
    simp only [bstF, forceN_eq, List.foldl_cons]
    rw [← ih]
    unfold bst1
    cases (Nat.beq m.1 y && Nat.beq (Nat.succ (nth fr m.2.2)) (nth fr y) && (Nat.beq s.2.1 0 || Nat.blt m.2.1 s.2.2)) <;> rfl
def chkS (fr : List Nat) (ms : List (Nat × Nat × Nat)) (k y : Nat) : List Nat → Bool
  | [] => Nat.beq y k
  | b :: P => !Nat.beq y k && (Nat.beq (bst fr y ms).2.1 (Nat.succ b) && (Nat.blt b ms.length && chkS fr ms k (nthM ms b).2.2 P))
def chkSF (fr : List Nat) (ms : List (Nat × Nat × Nat)) (k y : Nat) : List Nat → Bool
  | [] => Nat.beq y k
  | b :: P => !Nat.beq y k && (forceN (nth fr y) (fun fy => Nat.beq (bstF fr y fy 0 0 0 ms) (Nat.succ b)) && (Nat.blt b ms.length && forceN (nthM ms b).2.2 fun y => chkSF fr ms k y P))
theorem chkSF_eq (fr : List Nat) (ms : List (Nat × Nat × Nat)) (k y : Nat) (P : List Nat) : chkSF fr ms k y P = chkS fr ms k y P := by
  induction P generalizing y with
  | nil => rfl
  | cons b P ih =>
    simp only [chkSF, chkS, forceN_eq, ih]
    rw [show bstF fr y (nth fr y) 0 0 0 ms = (bst fr y ms).2.1 from bstF_eq fr y ms (0, 0, 0)]
def upto (n : Nat) (p : Nat → Bool) : Bool := match n with | 0 => true | n + 1 => p n && upto n p
def chkW (x : Nat) : Bool := withX x fun L ms => forceN L.length fun n => upto n fun k => forceL (pathI ms 21 k) fun P => forceL P.reverse fun Q => farW n ms [k] fun fr => Nat.blt P.length 20 && (chkI ms k P && chkSF fr ms k 0 Q)

theorem upto_out {p : Nat → Bool} {n : Nat} (h : upto n p = true) : ∀ i, i < n → p i = true := by
  induction n with
  | zero => intro i hi; omega
  | succ n ih =>
    simp only [upto, Bool.and_eq_true] at h
    intro i hi
    by_cases e : i = n
    · rw [e]; exact h.1
    · exact ih h.2 i (by omega)

/-! The program's own way to the two lists. -/
def evs (c : Nat) : Nat → List Nat
  | 0 => []
  | j + 1 => cond (al c (j + 1)) (evs c j ++ [j + 1]) (evs c j)
def inI (k : Nat) (s : List Nat × List (Nat × Nat × Nat)) : Nat → List Nat × List (Nat × Nat × Nat)
  | 0 => s
  | j + 1 => (putN (inI k s j).1 (nx (nth s.1 k) (nth (evs (nth s.1 k) 9) j)), (inI k s j).2 ++ [(k, nth (evs (nth s.1 k) 9) j, idxN (inI k s j).1 (nx (nth s.1 k) (nth (evs (nth s.1 k) 9) j)))])
def runI (x : Nat) : Nat → List Nat × List (Nat × Nat × Nat)
  | 0 => ([x], [])
  | k + 1 => cond (Nat.blt k (runI x k).1.length) (inI k (runI x k) (evs (nth (runI x k).1 k) 9).length) (runI x k)
def inIF {α : Type} (k c : Nat) (E : List Nat) (s : List Nat × List (Nat × Nat × Nat)) (n : Nat) (K : List Nat × List (Nat × Nat × Nat) → α) : α :=
  match n with
  | 0 => K s
  | j + 1 => inIF k c E s j fun s => forceN (nth E j) fun e => forceN (nx c e) fun y => forceN (idxN s.1 y) fun t => forceL (putN s.1 y) fun L => K (L, s.2 ++ [(k, e, t)])
theorem inIF_eq {α : Type} (k : Nat) (s : List Nat × List (Nat × Nat × Nat)) (n : Nat) (K : List Nat × List (Nat × Nat × Nat) → α) : inIF k (nth s.1 k) (evs (nth s.1 k) 9) s n K = K (inI k s n) := by
  induction n generalizing K with
  | zero => rfl
  | succ n ih => simp only [inIF, ih, forceN_eq, forceL_eq, inI]
def runIF {α : Type} (x : Nat) (n : Nat) (K : List Nat × List (Nat × Nat × Nat) → α) : α :=
  match n with
  | 0 => K ([x], [])
  | k + 1 => runIF x k fun s => cond (Nat.blt k s.1.length) (forceN (nth s.1 k) fun c => forceL (evs c 9) fun E => forceN E.length fun n => inIF k c E s n K) (K s)
theorem runIF_eq {α : Type} (x n : Nat) (K : List Nat × List (Nat × Nat × Nat) → α) : runIF x n K = K (runI x n) := by
  induction n generalizing K with
  | zero => rfl
  | succ n ih => simp only [runIF, ih, forceN_eq, forceL_eq, inIF_eq, runI, cond_app]
def eqL : List Nat → List Nat → Bool
  | [], [] => true
  | a :: l, b :: m => Nat.beq a b && eqL l m
  | _, _ => false
def eqM : List (Nat × Nat × Nat) → List (Nat × Nat × Nat) → Bool
  | [], [] => true
  | a :: l, b :: m => Nat.beq a.1 b.1 && (Nat.beq a.2.1 b.2.1 && (Nat.beq a.2.2 b.2.2 && eqM l m))
  | _, _ => false
theorem eqL_eq {a b : List Nat} (h : eqL a b = true) : a = b := by
  induction a generalizing b with
  | nil => cases b with | nil => rfl | cons _ _ => cases h
  | cons x a ih => cases b with
    | nil => cases h
    | cons y b =>
      simp only [eqL, Bool.and_eq_true] at h
      rw [Nat.eq_of_beq_eq_true h.1, ih h.2]
theorem eqM_eq {a b : List (Nat × Nat × Nat)} (h : eqM a b = true) : a = b := by
  induction a generalizing b with
  | nil => cases b with | nil => rfl | cons _ _ => cases h
  | cons x a ih => cases b with
    | nil => cases h
    | cons y b =>
      simp only [eqM, Bool.and_eq_true] at h
      obtain ⟨x1, x2, x3⟩ := x
      obtain ⟨y1, y2, y3⟩ := y
      have h1 := Nat.eq_of_beq_eq_true h.1
      have h2 := Nat.eq_of_beq_eq_true h.2.1
      have h3 := Nat.eq_of_beq_eq_true h.2.2.1
      simp only at h1 h2 h3
      rw [ih h.2.2.2, h1, h2, h3]

/-! The rides. -/
def putR : List Nat → Nat → List Nat
  | [], n => [n]
  | a :: l, n => cond (Nat.blt a n) (a :: putR l n) (cond (Nat.beq a n) (a :: l) (n :: a :: l))
def goal1 (g : List Nat) (m : Nat × Nat × Nat) : List Nat := cond (Nat.beq m.2.1 7) (putR g m.1) g
def goals7 (ms : List (Nat × Nat × Nat)) : List Nat := ms.foldl goal1 []
def fst7 : List (Nat × Nat × Nat) → Nat
  | [] => 0
  | m :: ms => cond (Nat.beq m.2.1 7) 0 (Nat.succ (fst7 ms))
def stp (o : List Nat) (m : Nat × Nat × Nat) : List Nat := cond (!Nat.beq m.2.2 0 && Nat.beq (nth o m.2.2) 0) (setN o m.2.2 (Nat.succ (nth o m.1))) o
def zeros : Nat → List Nat
  | 0 => []
  | n + 1 => 0 :: zeros n
def stepsAt (n : Nat) (ms : List (Nat × Nat × Nat)) (k : Nat) : List Nat := (ms.take k).foldl stp (zeros n)
/-- The least number of moves to a ride's end. -/
def few (x : Nat) : Nat := Nat.succ (nth (stepsAt (R x).length (M x) (fst7 (M x))) (nthM (M x) (fst7 (M x))).1)
def chk0 (x : Nat) : Bool := withX x fun L ms => runIF x 20 fun s => eqL s.1 L && (eqM s.2 ms && (Nat.ble L.length 20 && (Nat.ble ms.length 45 && ((L.all fun c => Nat.blt c 80) && ((ms.all fun m => Nat.blt m.1 L.length && (Nat.blt m.2.2 L.length && (Nat.blt 0 m.2.1 && Nat.blt m.2.1 10)))
  && (Nat.blt (fst7 ms) ms.length && ((goals7 ms).all fun g => Nat.blt g L.length)))))))
def chk7 (x : Nat) : Bool := withX x fun L ms => forceL (goals7 ms) fun g => forceN (Nat.succ (nth (stepsAt L.length ms (fst7 ms)) (nthM ms (fst7 ms)).1)) fun n =>
  farW L.length ms g fun fr => Nat.beq (nth fr 0) n && fr.all (fun f => Nat.blt 0 f)
theorem nx_ok : all80 (fun c => upto 10 fun k => Nat.blt (nx c k) 80) 80 = true := by decide +kernel
theorem chk0_ok : all80 chk0 80 = true := by decide +kernel
theorem chk7_ok : all80 chk7 80 = true := by decide +kernel
end Go.Proofs.Ytkloolhngddpiaa
