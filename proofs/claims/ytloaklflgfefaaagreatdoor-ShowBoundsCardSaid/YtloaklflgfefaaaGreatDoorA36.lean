/- Ranges over functions in the calculus: runs under a yield that is the limit of its rounds. -/
import Derived.Test.YtloaklflgfefaaaGreatDoorA33
namespace Go.Ab
open Go
set_option linter.unusedSectionVars false
set_option linter.unusedSimpArgs false
set_option linter.unusedVariables false
variable {T : Nat → Option AFn}

/-- What some of a row of callers answers. -/
noncomputable def limC (H : Nat → Caller) : Caller := fun f l s => open Classical in if h : ∃ r m, H m f l s = some r then some h.choose else none
def Chain (H : Nat → Caller) : Prop := ∀ m m', m ≤ m' → LeC (H m) (H m')
theorem limC_some {H : Nat → Caller} {f : Nat} {l : List D} {s : St} {r : D × St} (h : limC H f l s = some r) : ∃ m, H m f l s = some r := by
  unfold limC at h
  split at h
  · rename_i hx
    simp only [Option.some.injEq] at h
    rw [← h]; exact hx.choose_spec
  · cases h
theorem le_limC {H : Nat → Caller} (hc : Chain H) (m : Nat) : LeC (H m) (limC H) := by
  intro f l s r h
  unfold limC
  have hx : ∃ r m, H m f l s = some r := ⟨r, m, h⟩
  rw [dif_pos hx]
  obtain ⟨m', h'⟩ := hx.choose_spec
  have h1 := hc m (max m m') (Nat.le_max_left _ _) _ _ _ _ h
  have h2 := hc m' (max m m') (Nat.le_max_right _ _) _ _ _ _ h'
  rw [h1] at h2
  simp only [Option.some.injEq] at h2
  rw [h2]
/-- C is below the limit of some. -/
def SubC (C : Caller) (F : Nat → Caller) : Prop := ∀ f l s r, C f l s = some r → ∃ m, F m f l s = some r
def SubL (L : Looper) (F : Nat → Looper) : Prop := ∀ k a fr s r, L k a fr s = some r → ∃ m, F m k a fr s = some r
def ChainL (F : Nat → Looper) : Prop := ∀ m m', m ≤ m' → LeL (F m) (F m')
section
variable {C : Caller} {FC : Nat → Caller} {L : Looper} {FL : Nat → Looper}
theorem opF_cont (h : SubC C FC) {e : Env} {s : St} {al : Option Nat} {p : AOp} {r : D × St} (hr : opF C e s al p = some r) : ∃ m, opF (FC m) e s al p = some r := by
  cases p
  case call ro f args =>
    simp only [opF] at hr ⊢
    split at hr
    · rename_i l hl
      cases ro with
      | false => simp only at hr ⊢; exact h _ _ _ _ hr
      | true =>
        simp only at hr ⊢
        split at hr
        · rename_i d s1 h1
          obtain ⟨m, hm⟩ := h _ _ _ _ h1
          exact ⟨m, by rw [hm]; exact hr⟩
        · cases hr
    · cases hr
  case callv f args =>
    simp only [opF] at hr ⊢
    split at hr
    · exact h _ _ _ _ hr
    · exact h _ _ _ _ hr
    · cases hr
  case invoke tbl x args =>
    simp only [opF] at hr ⊢
    split at hr
    · rename_i t v l hx hl
      split at hr
      · rename_i f r0 hf
        split at hr
        · rename_i u hu
          obtain ⟨m, hm⟩ := h _ _ _ _ hr
          exact ⟨m, by try simp only [hu]
                       exact hm⟩
        · cases hr
      · cases hr
    · cases hr
  all_goals exact ⟨0, hr⟩
theorem oper_cont (h : SubC C FC) {b : Nat} {o : AOper} {fr : Fr} {s : St} {r : Fr × St} (hr : oper C b o fr s = some r) : ∃ m, oper (FC m) b o fr s = some r := by
  unfold oper at hr ⊢
  split at hr
  · rename_i hw
    split at hr
    · exact ⟨0, by simpa [hw] using hr⟩
    · exact ⟨0, by simpa [hw] using hr⟩
    · exact ⟨0, by simpa [hw] using hr⟩
    · rename_i op h1 h2 h3
      split at hr
      · rename_i d s1 hop
        obtain ⟨m, hm⟩ := opF_cont h hop
        exact ⟨m, by rw [hm]; exact hr⟩
      · cases hr
  · exact ⟨0, hr⟩
  · cases hr
variable (hc : Chain FC) (hcL : ChainL FL) (h : SubC C FC) (hL : SubL L FL)
include hc h
theorem opers_cont {b : Nat} : ∀ {l : List AOper} {fr : Fr} {s : St} {r : Fr × St}, opers C b l fr s = some r → ∃ m, opers (FC m) b l fr s = some r
  | [], _, _, _, hr => ⟨0, hr⟩
  | o :: l, fr, s, r, hr => by
    simp only [opers] at hr ⊢
    split at hr
    · rename_i h1
      obtain ⟨m, hm⟩ := oper_cont h h1
      obtain ⟨m', hm'⟩ := opers_cont hr
      refine ⟨max m m', ?_⟩
      rw [oper_mono (hc _ _ (Nat.le_max_left m m')) hm]
      exact opers_mono (hc _ _ (Nat.le_max_right m m')) hm'
    · cases hr
theorem dopers_cont {b : Nat} : ∀ {l : List (AOper × List Nat)} {acc : List Fp} {fr : Fr} {s : St} {r : Fr × St}, dopers C b l acc fr s = some r → ∃ m, dopers (FC m) b l acc fr s = some r
  | [], _, _, _, _, hr => ⟨0, hr⟩
  | (o, q) :: l, acc, fr, s, r, hr => by
    simp only [dopers] at hr ⊢
    split at hr
    · rename_i h0
      split at hr
      · rename_i h1
        split at hr
        · rename_i h2
          obtain ⟨m, hm⟩ := oper_cont h h1
          obtain ⟨m', hm'⟩ := dopers_cont hr
          refine ⟨max m m', ?_⟩
          rw [oper_mono (hc _ _ (Nat.le_max_left m m')) hm]
          simp only [h2]
          exact dopers_mono (hc _ _ (Nat.le_max_right m m')) hm'
        · cases hr
      · cases hr
    · cases hr
include hcL hL
theorem execS_cont : ∀ {a : AC} {fr : Fr} {s : St} {r : Ex × Fr × St}, execS C L a fr s = some r → ∃ m, execS (FC m) (FL m) a fr s = some r
  | .skip, _, _, _, hr => ⟨0, hr⟩
  | .reg ops, fr, s, r, hr => by
    simp only [execS] at hr ⊢
    split at hr
    · rename_i h1
      obtain ⟨m, hm⟩ := opers_cont hc h h1
      exact ⟨m, by rw [hm]; exact hr⟩
    · cases hr
  | .dreg k ops, fr, s, r, hr => by
    simp only [execS] at hr ⊢
    split at hr
    · cases hr
    · rename_i h0
      split at hr
      · rename_i h1
        obtain ⟨m, hm⟩ := dopers_cont hc h h1
        exact ⟨m, by rw [hm]; exact hr⟩
      · cases hr
  | .seq a b, fr, s, r, hr => by
    simp only [execS] at hr ⊢
    split at hr
    · rename_i h1
      obtain ⟨m, hm⟩ := execS_cont h1
      obtain ⟨m', hm'⟩ := execS_cont hr
      refine ⟨max m m', ?_⟩
      rw [execS_mono (hc _ _ (Nat.le_max_left m m')) (hcL _ _ (Nat.le_max_left m m')) hm]
      exact execS_mono (hc _ _ (Nat.le_max_right m m')) (hcL _ _ (Nat.le_max_right m m')) hm'
    · rename_i hn
      obtain ⟨m, hm⟩ := execS_cont hr
      refine ⟨m, ?_⟩
      rw [hm]
      split
      · rename_i h2
        simp only [Option.some.injEq] at h2; subst h2
        exact absurd hr (hn _ _)
      · rfl
  | .cond c a b, fr, s, r, hr => by
    simp only [execS] at hr ⊢
    split at hr
    · exact execS_cont hr
    · exact execS_cont hr
    · cases hr
  | .block id a, fr, s, r, hr => by
    simp only [execS] at hr ⊢
    split at hr
    · rename_i h1
      obtain ⟨m, hm⟩ := execS_cont h1
      exact ⟨m, by rw [hm]; exact hr⟩
    · rename_i hn
      obtain ⟨m, hm⟩ := execS_cont hr
      refine ⟨m, ?_⟩
      rw [hm]
      split
      · rename_i h2
        simp only [Option.some.injEq] at h2; subst h2
        exact absurd hr (hn _ _ _)
      · rfl
  | .loop keep a, fr, s, r, hr => by
    simp only [execS] at hr ⊢
    exact hL _ _ _ _ _ hr
  | .rangef keep g ps x y, fr, s, r, hr => by
    simp only [execS] at hr ⊢
    exact hL _ _ _ _ _ hr
  | .exit id, _, _, _, hr => ⟨0, hr⟩
  | .ret, _, _, _, hr => ⟨0, hr⟩
  | .bad, _, _, _, hr => by simp [execS] at hr
end
theorem leave_cont {C : Caller} {FC : Nat → Caller} (hc : Chain FC) (h : SubC C FC) : ∀ {l : List (D × List D)} {s s' : St}, leave C l s = some s' → ∃ m, leave (FC m) l s = some s'
  | [], _, _, hr => ⟨0, hr⟩
  | (f, l) :: q, s, s', hr => by
    unfold leave at hr
    split at hr
    · rename_i hh; cases hh
    · rename_i hh
      simp only [List.cons.injEq, Prod.mk.injEq] at hh
      obtain ⟨⟨rfl, rfl⟩, rfl⟩ := hh
      split at hr
      · rename_i h1
        obtain ⟨m, hm⟩ := h _ _ _ _ h1
        obtain ⟨m', hm'⟩ := leave_cont hc h hr
        refine ⟨max m m', ?_⟩
        rw [leave, hc _ _ (Nat.le_max_left m m') _ _ _ _ hm]
        exact leave_mono (hc _ _ (Nat.le_max_right m m')) hm'
      · cases hr
    · rename_i hh
      simp only [List.cons.injEq, Prod.mk.injEq] at hh
      obtain ⟨⟨rfl, rfl⟩, rfl⟩ := hh
      obtain ⟨m', hm'⟩ := leave_cont hc h hr
      exact ⟨m', by rw [leave]; exact hm'⟩
    · cases hr
theorem runFn_cont {C CD : Caller} {FC FD : Nat → Caller} {L : Looper} {FL : Nat → Looper} (hc : Chain FC) (hd : Chain FD) (hcL : ChainL FL) (h : SubC C FC) (hD : SubC CD FD) (hL : SubL L FL) {fn : AFn} {args : List D} {s : St} {r : D × St} (hr : runFn C CD L fn args s = some r) : ∃ m, runFn (FC m) (FD m) (FL m) fn args s = some r := by
  unfold runFn at hr
  split at hr
  · cases hr
  · rename_i e fr s1 hne h1
    obtain ⟨m, hm⟩ := execS_cont hc hcL h hL h1
    split at hr
    · rename_i s2 h2
      obtain ⟨m', hm'⟩ := leave_cont hd hD h2
      refine ⟨max m m', ?_⟩
      unfold runFn
      rw [execS_mono (hc _ _ (Nat.le_max_left m m')) (hcL _ _ (Nat.le_max_left m m')) hm]
      have h3 := leave_mono (hd _ _ (Nat.le_max_right m m')) hm'
      cases e with
      | exit i => exact absurd rfl (hne i)
      | normal => simp only [h3]; exact hr
      | ret => simp only [h3]; exact hr
    · cases hr
  · cases hr
theorem callD_cont {C : Caller} {FC : Nat → Caller} {L : Looper} {FL : Nat → Looper} (hc : Chain FC) (hcL : ChainL FL) (h : SubC C FC) (hL : SubL L FL) : SubC (callD T C L) (fun m => callD T (FC m) (FL m)) := by
  intro f l s r hr
  unfold callD at hr ⊢
  split at hr
  · rename_i fn hf
    unfold runFnD at hr ⊢
    split at hr
    · cases hr
    · rename_i e fr s1 hne h1
      obtain ⟨m, hm⟩ := execS_cont hc hcL h hL h1
      refine ⟨m, ?_⟩
      dsimp only
      rw [hf]; dsimp only
      rw [hm]
      cases e with
      | exit i => exact absurd rfl (hne i)
      | normal => exact hr
      | ret => exact hr
    · cases hr
  · cases hr
theorem yHook_cont {k : Nat} {ps : List Nat} {e : Env} {x y : Fr → St → Option (Ex × Fr × St)} {H : Caller} {FX FY : Nat → Fr → St → Option (Ex × Fr × St)} {FH : Nat → Caller}
    (hx : ∀ fr s r, x fr s = some r → ∃ m, FX m fr s = some r) (hy : ∀ fr s r, y fr s = some r → ∃ m, FY m fr s = some r) (hH : SubC H FH) (cx : ∀ m m', m ≤ m' → LeE (FX m) (FX m')) (cy : ∀ m m', m ≤ m' → LeE (FY m) (FY m')) :
    SubC (yHook k ps e x y H) (fun m => yHook k ps e (FX m) (FY m) (FH m)) := by
  intro f l s r hr
  unfold yHook at hr
  split at hr
  · rename_i k' xs
    split at hr
    · rename_i hk
      split at hr
      · rename_i e1 h1 h2
        unfold midR at hr
        split at hr
        · rename_i fr1 s1 h3
          obtain ⟨m, hm⟩ := hx _ _ _ h3
          split at hr
          · rename_i h4
            split at hr
            · rename_i s2 h5
              unfold endR at hr
              split at hr
              · rename_i e2 fr2 s3 h6
                obtain ⟨m', hm'⟩ := hy _ _ _ h6
                refine ⟨max m m', ?_⟩
                simp only [yHook, hk, h1, h2, midR, cx _ _ (Nat.le_max_left m m') _ _ _ hm, h4, h5, endR, cy _ _ (Nat.le_max_right m m') _ _ _ hm']
                exact hr
              · cases hr
            · cases hr
          · cases hr
        · cases hr
      · cases hr
    · rename_i hk
      obtain ⟨m, hm⟩ := hH _ _ _ _ hr
      refine ⟨m, ?_⟩
      simp only [yHook, hk]; exact hm
  · rename_i h0
    obtain ⟨m, hm⟩ := hH _ _ _ _ hr
    refine ⟨m, ?_⟩
    show yHook k ps e (FX m) (FY m) (FH m) _ _ s = some r
    unfold yHook
    split
    · exact absurd rfl (h0 _ _ rfl)
    · exact hm
theorem chain_callN {FH : Nat → Caller} (hc : Chain FH) (n : Nat) : Chain (fun m => callN T (FH m) n) ∧ ChainL (fun m => loopN T (FH m) n) :=
  ⟨fun m m' h => (callN_mono n (hc m m' h)).1, fun m m' h => (callN_mono n (hc m m' h)).2⟩
theorem callN_cont : ∀ n {H : Caller} {FH : Nat → Caller}, Chain FH → SubC H FH → SubC (callN T H n) (fun m => callN T (FH m) n) ∧ SubL (loopN T H n) (fun m => loopN T (FH m) n)
  | 0, H, FH, hc, hH => ⟨fun f l s r hr => by simp [callN] at hr, fun k a fr s r hr => by simp [loopN] at hr⟩
  | n + 1, H, FH, hc, hH => by
    obtain ⟨i1, i2⟩ := callN_cont n hc hH
    obtain ⟨c1, c2⟩ := chain_callN (T := T) hc n
    have cD : Chain (fun m => callD T (callN T (FH m) n) (loopN T (FH m) n)) := fun m m' h => callD_mono (c1 m m' h) (c2 m m' h)
    refine ⟨fun f l s r hr => ?_, fun k a fr s r hr => ?_⟩
    · rw [callN] at hr
      split at hr
      · rename_i hy
        obtain ⟨m, hm⟩ := hH _ _ _ _ hr
        exact ⟨m, by show callN T (FH m) (n + 1) f l s = _; rw [callN, hy]; exact hm⟩
      · rename_i hy
        split at hr
        · rename_i fn hf
          obtain ⟨m, hm⟩ := runFn_cont c1 cD c2 i1 (callD_cont c1 c2 i1 i2) i2 hr
          exact ⟨m, by show callN T (FH m) (n + 1) f l s = _; rw [callN, hy, hf]; exact hm⟩
        · rename_i hf
          obtain ⟨m, hm⟩ := hH _ _ _ _ hr
          exact ⟨m, by show callN T (FH m) (n + 1) f l s = _; rw [callN, hy, hf]; exact hm⟩
    · cases hb : a.isRangef with
      | true =>
        cases a <;> first | (cases hb; done) | skip
        rename_i kp g ps x y
        rw [loopN_range] at hr
        unfold rangeF at hr
        split at hr
        · rename_i gf caps h1 h2
          split at hr
          · rename_i h3
            unfold endRF at hr
            split at hr
            · rename_i d s1 h4
              have hsub : SubC (yHook s.n ps (fr.env.keep kp) (execS (callN T H n) (loopN T H n) x) (execS (callN T H n) (loopN T H n) y) H)
                  (fun m => yHook s.n ps (fr.env.keep kp) (execS (callN T (FH m) n) (loopN T (FH m) n) x) (execS (callN T (FH m) n) (loopN T (FH m) n) y) (FH m)) :=
                yHook_cont (FX := fun m => execS (callN T (FH m) n) (loopN T (FH m) n) x) (FY := fun m => execS (callN T (FH m) n) (loopN T (FH m) n) y) (fun _ _ _ h => execS_cont c1 c2 i1 i2 h) (fun _ _ _ h => execS_cont c1 c2 i1 i2 h) hH (fun m m' h _ _ _ hh => execS_mono (c1 m m' h) (c2 m m' h) hh) (fun m m' h _ _ _ hh => execS_mono (c1 m m' h) (c2 m m' h) hh)
              have hch : Chain (fun m => yHook s.n ps (fr.env.keep kp) (execS (callN T (FH m) n) (loopN T (FH m) n) x) (execS (callN T (FH m) n) (loopN T (FH m) n) y) (FH m)) := fun m m' h =>
                yHook_mono (fun _ _ _ hh => execS_mono (c1 m m' h) (c2 m m' h) hh) (fun _ _ _ hh => execS_mono (c1 m m' h) (c2 m m' h) hh) (hc m m' h)
              obtain ⟨m, hm⟩ := (callN_cont n hch hsub).1 _ _ _ _ h4
              refine ⟨m, ?_⟩
              show loopN T (FH m) (n + 1) k _ fr s = _
              rw [loopN_range]
              unfold rangeF
              rw [h1, h2]
              simp only [h3]
              unfold endRF
              simp only at hm
              rw [hm]
              exact hr
            · cases hr
          · cases hr
        · cases hr
      | false =>
        rw [loopN_plain _ _ _ _ hb] at hr
        split at hr
        · rename_i h1
          obtain ⟨m, hm⟩ := execS_cont c1 c2 i1 i2 h1
          obtain ⟨m', hm'⟩ := i2 _ _ _ _ _ hr
          refine ⟨max m m', ?_⟩
          show loopN T (FH (max m m')) (n + 1) k a fr s = _
          rw [loopN_plain _ _ _ _ hb, execS_mono (c1 _ _ (Nat.le_max_left m m')) (c2 _ _ (Nat.le_max_left m m')) hm]
          exact c2 _ _ (Nat.le_max_right m m') _ _ _ _ _ hm'
        · rename_i hn
          obtain ⟨m, hm⟩ := execS_cont c1 c2 i1 i2 hr
          refine ⟨m, ?_⟩
          show loopN T (FH m) (n + 1) k a fr s = _
          rw [loopN_plain _ _ _ _ hb, hm]
          split
          · rename_i h2
            simp only [Option.some.injEq] at h2; subst h2
            exact absurd hr (hn _ _)
          · rfl

theorem Ev.yield {H : Caller} {y : D} {l : List D} {s : St} {r : D × St} (h : H 0 (.lv y :: l) s = some r) : Ev T H 0 (.lv y :: l) s r := ⟨1, by rw [callN]; exact h⟩
/-- What a yield answers, if its round goes so. -/
def YieldOk (T : Nat → Option AFn) (H : Caller) (k : Nat) (ps : List Nat) (env : Env) (a b : AC) (Y : Caller) : Prop :=
  (∀ f l s r, yS l = false → H f l s = some r → Y f l s = some r) ∧
  ∀ (xs : List D) (s : St) (e : Env) (Q : Bool → St → Prop), bindPs ps xs env = some e → s.loopAt (k + 1) k .ready = true →
    Wp T H a ⟨e, []⟩ s (fun x f1 s1 => x = .normal ∧ s1.loopAt (k + 1) k .ready = true ∧ ∃ s2, s1.set (k + 1) (.loop k .busy) = some s2 ∧
      Wp T H b f1 s2 fun x f2 s3 => f2.defers = [] ∧ s3.loopAt (k + 1) k .busy = true ∧ ∃ s4, s3.set (k + 1) (.loop k (stOf x)) = some s4 ∧ Q (isNormal x) s4) →
    ∃ c s', Y 0 (.lv (.yl k) :: xs) s = some (.bool c, s') ∧ Q c s'
/-- A range over a function. -/
theorem wp_rangef {H : Caller} {keep : List Nat} {g : Opd} {ps : List Nat} {a b : AC} {fr : Fr} {s : St} {Q : Ex → Fr → St → Prop} {gf : Nat} {caps : List D} (hg : g.ev fr.env = some (.fn (.func gf) [] caps)) (hro : s.ro = false) (hp : (fr.env.keep keep).plain = true)
    (h : ∀ Y, YieldOk T H s.n ps (fr.env.keep keep) a b Y → ∃ d s2, Ev T Y gf (.yl s.n :: caps) ((s.push0 .dead).push0 (.loop s.n .ready)) (d, s2) ∧
      ∃ st x s3, s2.get (s.n + 1) = some (.loop s.n st) ∧ exOf st = some x ∧ s2.set (s.n + 1) .dead = some s3 ∧ Q x { fr with defers := (.nilf, []) :: fr.defers } s3) :
    Wp T H (.rangef keep g ps a b) fr s Q := by
  let F : Nat → Caller := fun m => yHook s.n ps (fr.env.keep keep) (execS (callN T H m) (loopN T H m) a) (execS (callN T H m) (loopN T H m) b) H
  have hF : Chain F := fun m m' h => yHook_mono (fun _ _ _ hh => execS_mono (callN_le h).1 (callN_le h).2 hh) (fun _ _ _ hh => execS_mono (callN_le h).1 (callN_le h).2 hh) (fun _ _ _ _ h => h)
  have hY : YieldOk T H s.n ps (fr.env.keep keep) a b (limC F) := by
    refine ⟨fun f l s1 r hy hr => le_limC hF 0 _ _ _ _ ?_, fun xs s0 e Q1 hb hl hw => ?_⟩
    · show yHook _ _ _ _ _ H f l s1 = some r
      unfold yHook
      split
      · cases hy
      · exact hr
    · obtain ⟨x1, f1, s1, ⟨n1, hn1⟩, rfl, h2, s2, h3, x2, f2, s3, ⟨n2, hn2⟩, h4, h5, s4, h6, h7⟩ := hw
      refine ⟨isNormal x2, s4, le_limC hF (max n1 n2) _ _ _ _ ?_, h7⟩
      have e1 := execS_mono (callN_le (T := T) (H := H) (Nat.le_max_left n1 n2)).1 (callN_le (Nat.le_max_left n1 n2)).2 hn1
      have e2 := execS_mono (callN_le (T := T) (H := H) (Nat.le_max_right n1 n2)).1 (callN_le (Nat.le_max_right n1 n2)).2 hn2
      show yHook _ _ _ _ _ H 0 (.lv (.yl s.n) :: xs) s0 = _
      simp only [yHook, Nat.beq_refl, hl, hb, midR, e1, h2, h3, endR, e2, h4, h5, h6, ofS]
  obtain ⟨d, s2, ⟨n, hn⟩, st, x, s3, h1, h2, h3, h4⟩ := h _ hY
  obtain ⟨m, hm⟩ := (callN_cont n hF (fun _ _ _ _ h => limC_some h)).1 _ _ _ _ hn
  refine ⟨x, _, s3, ⟨max m n + 1, ?_⟩, h4⟩
  have hm2 : callN T (F (max m n)) (max m n) gf (.yl s.n :: caps) ((s.push0 .dead).push0 (.loop s.n .ready)) = some (d, s2) :=
    (callN_le (Nat.le_max_right m n)).1 _ _ _ _ ((callN_mono n (hF _ _ (Nat.le_max_left m n))).1 _ _ _ _ hm)
  rw [execS, loopN_range]
  unfold rangeF
  rw [hg, hro]
  simp only [hp]
  unfold endRF
  rw [hm2]
  simp only [h1, Nat.beq_refl, h2, h3]
end Go.Ab
