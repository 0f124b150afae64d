/- How data and the model's values belong together: 'Rep', the relation between an abstract state and a world ('StRel'), and what is kept along a run ('Kp'). -/
import Derived.Test.YtloaklflgfefaaaGreatDoorA2
import Derived.RangeFuncSeq
import Derived.RangeFuncIn
import Derived.OrdersIn
namespace Go.Ab
open Go
set_option linter.unusedSectionVars false
set_option linter.unusedSimpArgs false
set_option linter.unusedVariables false

/-- Whose a block is: nobody's (it is not written any more), a frame's, an object's. -/
inductive Own where
  | imm | priv | obj (o : Nat)
  deriving DecidableEq
inductive Kd where
  | fresh | live (sz : Nat) | dead
  deriving DecidableEq

/-- Ghosts: of blocks: whose they are; the first element of the object that lies in it, the end of what is valid, the room (in elements); of objects: what becomes of them; of a yield: the block of its loop's record, and the record as it began. -/
structure Gh where
  own : Nat → Own
  sh : Nat → Nat
  ext : Nat → Nat
  cap : Nat → Nat
  kd : Nat → Kd
  lp : Nat → Nat × Go.Loop

/-- The cells of a value lie at a place. -/
def CellsAt (w : World) (b x : Nat) (v : Value) : Prop := ∀ j, j < v.cells.size → w.cell? ⟨b, x + j, none⟩ = v.cells[j]?

def Gh.at (ρ : Gh) (o : Nat) (dd : Prop) (Q : Nat → Nat → Prop) : Prop :=
  match ρ.kd o with
  | .fresh => False
  | .dead => dd
  | .live sz => ∃ b, ρ.own b = .obj o ∧ Q sz b

variable [Vals]
mutual
def Rep (ρ : Gh) (w : World) : D → Value → Prop
  | .bool b, v => v = .bool b
  | .int k n, v => v = .int k n
  | .str s, v => v = .string ⟨⟨s⟩⟩
  | .nilp, v => v = .pointer none
  | .ptr o c, v => ρ.at o (∃ a, v = .pointer (some a)) fun _ b => v = .pointer (some ⟨b, c, none⟩)
  | .eptr o i c e, v => ρ.at o (∃ a, v = .pointer (some a)) fun sz b => ρ.sh b ≤ i ∧ i < e ∧ e ≤ ρ.ext b ∧ v = .pointer (some ⟨b, (i - ρ.sh b) * sz + c, none⟩)
  | .vptr e c, v => ∃ b x u, ρ.own b = .imm ∧ Rep ρ w e u ∧ CellsAt w b x u ∧ (0 < u.cells.size ∧ e.st = true) ∧ v = .pointer (some ⟨b, x + c, none⟩)
  | .vs nl sz l, v => (nl = true ∧ l = [] ∧ v = .slice none 0 0) ∨
      (nl = false ∧ ∃ ad cap, v = .slice (some ad) l.length cap ∧ l.length ≤ cap ∧ (l = [] ∨ ∃ b x, ad = ⟨b, x, none⟩ ∧ ρ.own b = .imm ∧ RepE ρ w sz b x l))
  | .sl o off len cp, v => ρ.at o (∃ a cap, v = .slice (some a) len cap) fun sz b => ρ.sh b ≤ off ∧ off + cp ≤ ρ.ext b ∧ len ≤ cp ∧ ∃ x cap, v = .slice (some ⟨b, x, none⟩) len cap ∧ cp ≤ cap ∧
      (cap = 0 ∨ x = (off - ρ.sh b) * sz) ∧ (off - ρ.sh b) + cap ≤ ρ.cap b
  | .nilm, v => v = .map none
  | .mp o, v => ρ.at o (∃ b, v = .map (some b)) fun _ b => v = .map (some b)
  | .fn f a c, v => ∃ va vc, v = .func f va vc ∧ RepL ρ w a va.toList ∧ RepL ρ w c vc.toList
  | .nilf, v => v = .nilFunc
  | .ifc t d, v => ∃ u, v = .iface t u ∧ Rep ρ w d u
  | .nili, v => v = .nilIface
  | .agg l, v => ∃ vs, v = .agg vs ∧ RepL ρ w l vs.toList ∧ l.all D.sc = true
  | .tup l, v => ∃ vs, v = .tuple vs ∧ RepL ρ w l vs.toList
  | .lv _, _ => False
  | .lptr _ _, _ => False
  | .sint k a lo hi, v => v = .int k a.val ∧ lo ≤ a.val ∧ a.val ≤ hi
  | .sstr i ex lo hi, v => v = .string ⟨⟨Vals.vs i⟩⟩ ∧ Vals.vs i ∉ ex ∧ lo ≤ (Vals.vs i).length ∧ (Vals.vs i).length ≤ hi
  | .sbool i, v => v = .bool (Vals.vb i)
  | .yl o, v => ρ.kd o = .dead ∧ v = .func (.yield (ρ.lp o).1) #[] #[]
def RepL (ρ : Gh) (w : World) : List D → List Value → Prop
  | [], vs => vs = []
  | d :: l, vs => ∃ v r, vs = v :: r ∧ Rep ρ w d v ∧ RepL ρ w l r
/-- Elements, one behind the other, from a cell on. -/
def RepE (ρ : Gh) (w : World) (sz b : Nat) : Nat → List D → Prop
  | _, [] => True
  | x, d :: l => (∃ v, Rep ρ w d v ∧ v.cells.size = sz ∧ 0 < sz ∧ CellsAt w b x v ∧ d.st = true) ∧ RepE ρ w sz b (x + sz) l
end

/-- An element lies at a cell. -/
def ElemAt (ρ : Gh) (w : World) (sz b x : Nat) (d : D) : Prop := ∃ v, Rep ρ w d v ∧ v.cells.size = sz ∧ CellsAt w b x v

/-- Map entries. -/
def RepM (ρ : Gh) (w : World) : List (Nat × D × D) → List MapEntry → Prop
  | [], es => es = []
  | (n, k, v) :: l, es => ∃ e r, es = e :: r ∧ e.born = n ∧ Rep ρ w k e.key ∧ Rep ρ w v e.val ∧ RepM ρ w l r

/-- A record as it is on its way. -/
def recOf (r : Go.Loop) : LSt → Go.Loop
  | .ready => { r with state := .ready, pending := none }
  | .busy => { r with state := .busy, pending := none }
  | .exit i => { r with state := .done, pending := some (.exit i) }
  | .ret => { r with state := .done, pending := some .ret }

/-- One block is an object's, no other. -/
def Gh.one (ρ : Gh) (o b : Nat) : Prop := ρ.own b = .obj o ∧ ∀ b', ρ.own b' = .obj o → b' = b

structure BlockOk (ρ : Gh) (w : World) (sz ty : Nat) (es : List D) (st : Nat) (b : Nat) : Prop where
  ext : ρ.ext b ≤ es.length
  sh : ρ.sh b ≤ ρ.ext b
  room : ρ.ext b - ρ.sh b ≤ ρ.cap b
  cells : ∀ j, j < ρ.cap b * sz → (w.cell? ⟨b, j, none⟩).isSome ∧ w.frozen? ⟨b, j, none⟩ = false
  shape : ∃ cs f, w.heap[b]? = some (.cells cs ty f)
  elems : st ≤ ρ.ext b → ∀ i d, ρ.sh b ≤ i → i < ρ.ext b → es[i]? = some d → ElemAt ρ w sz b ((i - ρ.sh b) * sz) d

def ObjOk (ρ : Gh) (w : World) (o : Nat) : Obj → Prop
  | .var ty d => ∃ b v, ρ.kd o = .live 1 ∧ ρ.one o b ∧ Rep ρ w d v ∧ w.heap[b]? = some (.cells v.cells ty (0, 0)) ∧ 0 < v.cells.size ∧ d.st = true
  | .arr sz ty es st => 0 < sz ∧ ρ.kd o = .live sz ∧ st ≤ es.length ∧ (∃ cur, ρ.own cur = .obj o ∧ ρ.ext cur = es.length ∧ ∀ b, ρ.own b = .obj o → ρ.ext b = es.length → b = cur) ∧
      (∀ b, ρ.own b = .obj o → BlockOk ρ w sz ty es st b) ∧ allSz sz es = true
  | .map es c => ∃ b ces, ρ.kd o = .live 1 ∧ ρ.one o b ∧ w.heap[b]? = some (.map ces c) ∧ RepM ρ w es ces.toList
  | .siter l pos => ∃ b, ρ.kd o = .live 1 ∧ ρ.one o b ∧ w.heap[b]? = some (.stringIter ⟨⟨l⟩⟩ pos)
  | .dead => ρ.kd o = .dead
  | .loop k st => ρ.kd o = .live 1 ∧ ρ.kd k = .dead ∧ ρ.one o (ρ.lp k).1 ∧ w.heap[(ρ.lp k).1]? = some (.loop (recOf (ρ.lp k).2 st))

structure StRel (ρ : Gh) (s : St) (w : World) : Prop where
  lt : ∀ o x, s.get o = some x → o < s.n
  ok : ∀ o x, s.get o = some x → ObjOk ρ w o x
  no : ∀ o, s.get o = none → ρ.kd o = .fresh
  live : ∀ b o, ρ.own b = .obj o → ρ.kd o ≠ .fresh
  size : ∀ b, w.heap.size ≤ b → ρ.own b = .imm

/-- What is kept along a run. -/
structure Kp (ρ : Gh) (w : World) (ρ' : Gh) (w' : World) : Prop where
  os : w'.os = w.os
  tape : w'.tape = w.tape
  output : w'.output = w.output
  size : w.heap.size ≤ w'.heap.size
  kept : ∀ b, b < w.heap.size → (∀ o, ρ.own b ≠ .obj o) → w'.heap[b]? = w.heap[b]? ∧ ρ'.own b = ρ.own b
  dead : ∀ o, ρ.kd o = .dead → ρ'.kd o = .dead ∧ ρ'.lp o = ρ.lp o
  live : ∀ o sz, ρ.kd o = .live sz → ρ'.kd o = .dead ∨ (ρ'.kd o = .live sz ∧ ∀ b, ρ.own b = .obj o → ρ'.own b = .obj o ∧ ρ'.sh b = ρ.sh b ∧ ρ.ext b ≤ ρ'.ext b ∧ ρ'.cap b = ρ.cap b)

theorem Kp.refl (ρ : Gh) (w : World) : Kp ρ w ρ w := ⟨rfl, rfl, rfl, Nat.le_refl _, fun _ _ _ => ⟨rfl, rfl⟩, fun _ h => ⟨h, rfl⟩, fun _ _ h => .inr ⟨h, fun _ hb => ⟨hb, rfl, Nat.le_refl _, rfl⟩⟩⟩

theorem Kp.trans {ρ ρ' ρ'' : Gh} {w w' w'' : World} (h : Kp ρ w ρ' w') (k : Kp ρ' w' ρ'' w'') : Kp ρ w ρ'' w'' := by
  refine ⟨k.os.trans h.os, k.tape.trans h.tape, k.output.trans h.output, Nat.le_trans h.size k.size, fun b hb hn => ?_, fun o ho => ⟨(k.dead o (h.dead o ho).1).1, (k.dead o (h.dead o ho).1).2.trans (h.dead o ho).2⟩, fun o sz ho => ?_⟩
  · obtain ⟨h1, h2⟩ := h.kept b hb hn
    obtain ⟨k1, k2⟩ := k.kept b (Nat.lt_of_lt_of_le hb h.size) (fun o => by rw [h2]; exact hn o)
    exact ⟨k1.trans h1, k2.trans h2⟩
  · rcases h.live o sz ho with h1 | ⟨h1, h2⟩
    · exact .inl (k.dead o h1).1
    · rcases k.live o sz h1 with k1 | ⟨k1, k2⟩
      · exact .inl k1
      · refine .inr ⟨k1, fun b hb => ?_⟩
        obtain ⟨a1, a2, a3, a4⟩ := h2 b hb
        obtain ⟨b1, b2, b3, b4⟩ := k2 b a1
        exact ⟨b1, b2.trans a2, Nat.le_trans a3 b3, b4.trans a4⟩

theorem cell?_lt {w : World} {b x : Nat} {v : Value} (h : w.cell? ⟨b, x, none⟩ = some v) : b < w.heap.size := by
  unfold World.cell? at h
  rcases Nat.lt_or_ge b w.heap.size with hb | hb
  · exact hb
  · simp [Array.getElem?_eq_none hb] at h

theorem cell?_of_heap {w w' : World} {b : Nat} (h : w'.heap[b]? = w.heap[b]?) (x : Nat) : w'.cell? ⟨b, x, none⟩ = w.cell? ⟨b, x, none⟩ := by
  unfold World.cell?; simp only [h]
theorem frozen?_of_heap {w w' : World} {b : Nat} (h : w'.heap[b]? = w.heap[b]?) (x : Nat) : w'.frozen? ⟨b, x, none⟩ = w.frozen? ⟨b, x, none⟩ := by
  unfold World.frozen?; simp only [h]

theorem CellsAt.lt {w : World} {b x : Nat} {v : Value} (h : CellsAt w b x v) (hp : 0 < v.cells.size) : b < w.heap.size := by
  have h0 := h 0 hp
  rw [Array.getElem?_eq_getElem hp] at h0
  exact cell?_lt h0
theorem CellsAt.of_heap {w w' : World} {b x : Nat} {v : Value} (hw : w'.heap[b]? = w.heap[b]?) (h : CellsAt w b x v) : CellsAt w' b x v := fun j hj => by
  rw [cell?_of_heap hw]; exact h j hj

/-- What data ask to be kept. -/
structure Kr (ρ : Gh) (w : World) (ρ' : Gh) (w' : World) : Prop where
  imm : ∀ b, b < w.heap.size → ρ.own b = .imm → w'.heap[b]? = w.heap[b]? ∧ ρ'.own b = .imm
  dead : ∀ o, ρ.kd o = .dead → ρ'.kd o = .dead ∧ ρ'.lp o = ρ.lp o
  live : ∀ o sz, ρ.kd o = .live sz → ρ'.kd o = .dead ∨ (ρ'.kd o = .live sz ∧ ∀ b, ρ.own b = .obj o → ρ'.own b = .obj o ∧ ρ'.sh b = ρ.sh b ∧ ρ.ext b ≤ ρ'.ext b ∧ ρ'.cap b = ρ.cap b)
theorem Kp.r {ρ ρ' : Gh} {w w' : World} (h : Kp ρ w ρ' w') : Kr ρ w ρ' w' :=
  ⟨fun b hb hi => by
    obtain ⟨h1, h2⟩ := h.kept b hb (fun o => by rw [hi]; simp)
    exact ⟨h1, h2.trans hi⟩, h.dead, h.live⟩

theorem Gh.at_mono {ρ ρ' : Gh} {w w' : World} (h : Kr ρ w ρ' w') {o : Nat} {dd : Prop} {Q Q' : Nat → Nat → Prop} (hd : ∀ sz b, Q sz b → dd) (hq : ∀ sz b, ρ.own b = .obj o → ρ'.sh b = ρ.sh b → ρ.ext b ≤ ρ'.ext b → ρ'.cap b = ρ.cap b → Q sz b → Q' sz b) (ha : ρ.at o dd Q) : ρ'.at o dd Q' := by
  unfold Gh.at at *
  cases hk : ρ.kd o with
  | fresh => simp [hk] at ha
  | dead => simp only [hk] at ha; simpa [(h.dead o hk).1] using ha
  | live sz =>
    simp only [hk] at ha
    obtain ⟨b, hb, hQ⟩ := ha
    rcases h.live o sz hk with h1 | ⟨h1, h2⟩
    · simpa [h1] using hd sz b hQ
    · obtain ⟨a1, a2, a3, a4⟩ := h2 b hb
      simp only [h1]
      exact ⟨b, a1, hq sz b hb a2 a3 a4 hQ⟩

mutual
theorem Rep.mono' {ρ ρ' : Gh} {w w' : World} (h : Kr ρ w ρ' w') : ∀ (d : D) (v : Value), Rep ρ w d v → Rep ρ' w' d v
  | .bool _, _, r => by simpa only [Rep] using r
  | .int _ _, _, r => by simpa only [Rep] using r
  | .str _, _, r => by simpa only [Rep] using r
  | .nilp, _, r => by simpa only [Rep] using r
  | .ptr o c, _, r => by
    simp only [Rep] at *
    exact Gh.at_mono h (fun _ _ q => ⟨_, q⟩) (fun _ _ _ _ _ _ q => q) r
  | .eptr o i c e, _, r => by
    simp only [Rep] at *
    refine Gh.at_mono h (fun _ _ q => ⟨_, q.2.2.2⟩) (fun sz b _ h1 h2 _ ⟨q1, q2, q3, q4⟩ => ?_) r
    rw [h1]; exact ⟨q1, q2, Nat.le_trans q3 h2, q4⟩
  | .vptr e c, _, r => by
    simp only [Rep] at *
    obtain ⟨b, x, u, h1, h2, h3, h4, h5⟩ := r
    obtain ⟨k1, k2⟩ := h.imm b (h3.lt h4.1) h1
    exact ⟨b, x, u, k2, Rep.mono' h e u h2, h3.of_heap k1, h4, h5⟩
  | .vs nl sz l, _, r => by
    simp only [Rep] at *
    rcases r with r | ⟨r1, ad, cap, r2, r3, r4⟩
    · exact .inl r
    · refine .inr ⟨r1, ad, cap, r2, r3, ?_⟩
      rcases r4 with r4 | ⟨b, x, r0, r4, r5⟩
      · exact .inl r4
      · cases l with
        | nil => exact .inl rfl
        | cons d l =>
          have hb : b < w.heap.size := by
            simp only [RepE] at r5
            obtain ⟨⟨v, _, e1, e2, e3, _⟩, _⟩ := r5
            exact e3.lt (by omega)
          obtain ⟨k1, k2⟩ := h.imm b hb r4
          exact .inr ⟨b, x, r0, k2, RepE.mono' h sz b k1 x (d :: l) r5⟩
  | .sl o off len cp, _, r => by
    simp only [Rep] at *
    refine Gh.at_mono h (fun _ _ ⟨_, _, _, _, _, q4, _⟩ => ⟨_, _, q4⟩) (fun sz b _ h1 h2 h3 ⟨q1, q2, q3, x, cap, q4, q5, q6, q7⟩ => ?_) r
    rw [h1, h3]; exact ⟨q1, Nat.le_trans q2 h2, q3, x, cap, q4, q5, q6, q7⟩
  | .nilm, _, r => by simpa only [Rep] using r
  | .mp o, _, r => by
    simp only [Rep] at *
    exact Gh.at_mono h (fun _ _ q => ⟨_, q⟩) (fun _ _ _ _ _ _ q => q) r
  | .fn f a c, _, r => by
    simp only [Rep] at *
    obtain ⟨va, vc, h1, h2, h3⟩ := r
    exact ⟨va, vc, h1, RepL.mono' h a _ h2, RepL.mono' h c _ h3⟩
  | .nilf, _, r => by simpa only [Rep] using r
  | .ifc t d, _, r => by
    simp only [Rep] at *
    obtain ⟨u, h1, h2⟩ := r
    exact ⟨u, h1, Rep.mono' h d u h2⟩
  | .nili, _, r => by simpa only [Rep] using r
  | .agg l, _, r => by
    simp only [Rep] at *
    obtain ⟨vs, h1, h2, h3⟩ := r
    exact ⟨vs, h1, RepL.mono' h l _ h2, h3⟩
  | .tup l, _, r => by
    simp only [Rep] at *
    obtain ⟨vs, h1, h2⟩ := r
    exact ⟨vs, h1, RepL.mono' h l _ h2⟩
  | .lv _, _, r => by simp only [Rep] at r
  | .lptr _ _, _, r => by simp only [Rep] at r
  | .sint _ _ _ _, _, r => by simpa only [Rep] using r
  | .sstr _ _ _ _, _, r => by simpa only [Rep] using r
  | .sbool _, _, r => by simpa only [Rep] using r
  | .yl o, _, r => by
    simp only [Rep] at *
    exact ⟨(h.dead o r.1).1, by rw [(h.dead o r.1).2]; exact r.2⟩
theorem RepL.mono' {ρ ρ' : Gh} {w w' : World} (h : Kr ρ w ρ' w') : ∀ (l : List D) (vs : List Value), RepL ρ w l vs → RepL ρ' w' l vs
  | [], _, r => by simpa only [RepL] using r
  | d :: l, _, r => by
    simp only [RepL] at *
    obtain ⟨v, t, h1, h2, h3⟩ := r
    exact ⟨v, t, h1, Rep.mono' h d v h2, RepL.mono' h l t h3⟩
theorem RepE.mono' {ρ ρ' : Gh} {w w' : World} (h : Kr ρ w ρ' w') (sz b : Nat) (hb : w'.heap[b]? = w.heap[b]?) : ∀ (x : Nat) (l : List D), RepE ρ w sz b x l → RepE ρ' w' sz b x l
  | _, [], _ => by simp only [RepE]
  | x, d :: l, r => by
    simp only [RepE] at *
    obtain ⟨⟨v, h1, h2, h3, h4, h6⟩, h5⟩ := r
    exact ⟨⟨v, Rep.mono' h d v h1, h2, h3, h4.of_heap hb, h6⟩, RepE.mono' h sz b hb (x + sz) l h5⟩
end

theorem RepM.mono' {ρ ρ' : Gh} {w w' : World} (h : Kr ρ w ρ' w') : ∀ (l : List (Nat × D × D)) (es : List MapEntry), RepM ρ w l es → RepM ρ' w' l es
  | [], _, r => by simpa only [RepM] using r
  | (n, k, v) :: l, _, r => by
    simp only [RepM] at *
    obtain ⟨e, t, h1, h2, h3, h4, h5⟩ := r
    exact ⟨e, t, h1, h2, Rep.mono' h _ _ h3, Rep.mono' h _ _ h4, RepM.mono' h l t h5⟩

theorem Rep.mono {ρ ρ' : Gh} {w w' : World} {d : D} {v : Value} (r : Rep ρ w d v) (h : Kp ρ w ρ' w') : Rep ρ' w' d v := Rep.mono' h.r d v r
theorem RepL.mono {ρ ρ' : Gh} {w w' : World} {l : List D} {vs : List Value} (r : RepL ρ w l vs) (h : Kp ρ w ρ' w') : RepL ρ' w' l vs := RepL.mono' h.r l vs r
theorem RepM.mono {ρ ρ' : Gh} {w w' : World} {l : List (Nat × D × D)} {es : List MapEntry} (r : RepM ρ w l es) (h : Kp ρ w ρ' w') : RepM ρ' w' l es := RepM.mono' h.r l es r

/-! ### A frame's slots -/

def SlotRel (ρ : Gh) (w : World) (lo : Nat) (e : Env) (tmps : Array Value) (t : Nat) (d : D) : Prop :=
  match d with
  | .lv x => ∃ b v el, tmps[t]? = some (.pointer (some ⟨b, 0, none⟩)) ∧ ρ.own b = .priv ∧ lo ≤ b ∧ Rep ρ w x v ∧ w.heap[b]? = some (.cells v.cells el (0, 0)) ∧ x.st = true
  | .lptr a c => ∀ x, e.get a = some (.lv x) → ∃ b, tmps[a]? = some (.pointer (some ⟨b, 0, none⟩)) ∧ tmps[t]? = some (.pointer (some ⟨b, c, none⟩))
  | d => ∃ v, tmps[t]? = some v ∧ Rep ρ w d v

structure EnvRel (ρ : Gh) (w : World) (lo : Nat) (e : Env) (tmps : Array Value) : Prop where
  slot : ∀ t d, e.get t = some d → SlotRel ρ w lo e tmps t d
  inj : ∀ t t' x x' b, t ≠ t' → e.get t = some (.lv x) → e.get t' = some (.lv x') → tmps[t]? = some (.pointer (some ⟨b, 0, none⟩)) → tmps[t']? ≠ some (.pointer (some ⟨b, 0, none⟩))

theorem EnvRel.mono {ρ ρ' : Gh} {w w' : World} {lo : Nat} {e : Env} {tmps : Array Value} (h : Kp ρ w ρ' w') (r : EnvRel ρ w lo e tmps) : EnvRel ρ' w' lo e tmps := by
  refine ⟨fun t d hd => ?_, r.inj⟩
  have := r.slot t d hd
  cases d with
  | lv x =>
    simp only [SlotRel] at *
    obtain ⟨b, v, el, h1, h2, h3, h4, h5, h6⟩ := this
    have hb : b < w.heap.size := by
      rcases Nat.lt_or_ge b w.heap.size with hb | hb
      · exact hb
      · simp [Array.getElem?_eq_none hb] at h5
    obtain ⟨k1, k2⟩ := h.kept b hb (fun o => by rw [h2]; simp)
    exact ⟨b, v, el, h1, k2.trans h2, h3, h4.mono h, k1.trans h5, h6⟩
  | lptr a c => exact this
  | _ =>
    simp only [SlotRel] at *
    obtain ⟨v, h1, h2⟩ := this
    exact ⟨v, h1, h2.mono h⟩

end Go.Ab
