/- The table is that of the program: written by a program of ours (wip/tools/mkT.py). -/
import Derived.Test.YtmclonbopcnoeaaT
import Derived.Test.YtmclonbopcnoeaaA30
import Derived.Test.YtmclonbopcnoeaaChecked
import Derived.KernelRfl
namespace Go.Proofs.Ytmclonbopcnoeaa.Tab
open Go Go.Ab Go.Proofs
set_option linter.unusedSectionVars false
set_option linter.unusedSimpArgs false
variable [Vals]
theorem ok2 : TabOk Try.prog gl exts (fun n => bif Nat.beq n 2 then af2 else none) := .leaf Try.func2 (by kernel_rfl) rfl
theorem ok3 : TabOk Try.prog gl exts (fun n => bif Nat.beq n 3 then af3 else none) := .leaf Try.func3 (by kernel_rfl) rfl
theorem ok4 : TabOk Try.prog gl exts (fun n => bif Nat.beq n 4 then af4 else none) := .leaf Try.func4 (by kernel_rfl) rfl
theorem ok5 : TabOk Try.prog gl exts (fun n => bif Nat.beq n 5 then af5 else none) := .leaf Try.func5 (by kernel_rfl) rfl
theorem ok6 : TabOk Try.prog gl exts (fun n => bif Nat.beq n 6 then af6 else none) := .leaf Try.func6 (by kernel_rfl) rfl
theorem ok7 : TabOk Try.prog gl exts (fun n => bif Nat.beq n 7 then af7 else none) := .leaf Try.func7 (by kernel_rfl) rfl
theorem ok8 : TabOk Try.prog gl exts (fun n => bif Nat.beq n 8 then af8 else none) := .leaf Try.func8 (by kernel_rfl) rfl
theorem ok9 : TabOk Try.prog gl exts (fun n => bif Nat.beq n 9 then af9 else none) := .leaf Try.func9 (by kernel_rfl) rfl
theorem ok10 : TabOk Try.prog gl exts (fun n => bif Nat.beq n 10 then af10 else none) := .leaf Try.func10 (by kernel_rfl) rfl
theorem ok11 : TabOk Try.prog gl exts (fun n => bif Nat.beq n 11 then af11 else none) := .leaf Try.func11 (by kernel_rfl) rfl
theorem ok12 : TabOk Try.prog gl exts (fun n => bif Nat.beq n 12 then af12 else none) := .leaf Try.func12 (by kernel_rfl) rfl
theorem ok13 : TabOk Try.prog gl exts (fun n => bif Nat.beq n 13 then af13 else none) := .leaf Try.func13 (by kernel_rfl) rfl
theorem ok14 : TabOk Try.prog gl exts (fun n => bif Nat.beq n 14 then af14 else none) := .leaf Try.func14 (by kernel_rfl) rfl
theorem ok15 : TabOk Try.prog gl exts (fun n => bif Nat.beq n 15 then af15 else none) := .leaf Try.func15 (by kernel_rfl) rfl
theorem ok16 : TabOk Try.prog gl exts (fun n => bif Nat.beq n 16 then af16 else none) := .leaf Try.func16 (by kernel_rfl) rfl
theorem ok17 : TabOk Try.prog gl exts (fun n => bif Nat.beq n 17 then af17 else none) := .leaf Try.func17 (by kernel_rfl) rfl
theorem ok18 : TabOk Try.prog gl exts (fun n => bif Nat.beq n 18 then af18 else none) := .leaf Try.func18 (by kernel_rfl) rfl
theorem ok19 : TabOk Try.prog gl exts (fun n => bif Nat.beq n 19 then af19 else none) := .leaf Try.func19 (by kernel_rfl) rfl
theorem ok20 : TabOk Try.prog gl exts (fun n => bif Nat.beq n 20 then af20 else none) := .leaf Try.func20 (by kernel_rfl) rfl
theorem ok21 : TabOk Try.prog gl exts (fun n => bif Nat.beq n 21 then af21 else none) := .leaf Try.func21 (by kernel_rfl) rfl
theorem ok22 : TabOk Try.prog gl exts (fun n => bif Nat.beq n 22 then af22 else none) := .leaf Try.func22 (by kernel_rfl) rfl
theorem ok23 : TabOk Try.prog gl exts (fun n => bif Nat.beq n 23 then af23 else none) := .leaf Try.func23 (by kernel_rfl) rfl
theorem ok24 : TabOk Try.prog gl exts (fun n => bif Nat.beq n 24 then af24 else none) := .leaf Try.func24 (by kernel_rfl) rfl
theorem ok25 : TabOk Try.prog gl exts (fun n => bif Nat.beq n 25 then af25 else none) := .leaf Try.func25 (by kernel_rfl) rfl
theorem ok26 : TabOk Try.prog gl exts (fun n => bif Nat.beq n 26 then af26 else none) := .leaf Try.func26 (by kernel_rfl) rfl
theorem ok27 : TabOk Try.prog gl exts (fun n => bif Nat.beq n 27 then af27 else none) := .leaf Try.func27 (by kernel_rfl) rfl
theorem ok28 : TabOk Try.prog gl exts (fun n => bif Nat.beq n 28 then af28 else none) := .leaf Try.func28 (by kernel_rfl) rfl
theorem ok29 : TabOk Try.prog gl exts (fun n => bif Nat.beq n 29 then af29 else none) := .leaf Try.func29 (by kernel_rfl) rfl
theorem ok30 : TabOk Try.prog gl exts (fun n => bif Nat.beq n 30 then af30 else none) := .leaf Try.func30 (by kernel_rfl) rfl
theorem ok31 : TabOk Try.prog gl exts (fun n => bif Nat.beq n 31 then af31 else none) := .leaf Try.func31 (by kernel_rfl) rfl
theorem ok32 : TabOk Try.prog gl exts (fun n => bif Nat.beq n 32 then af32 else none) := .leaf Try.func32 (by kernel_rfl) rfl
theorem xok33 : ExtOk Try.prog 33 (.aload .u32) := ⟨⟨Try.f33, (Extern.Atomic.loadT (.int .u32)), Try.func33, by kernel_rfl, by kernel_rfl, by kernel_rfl, by kernel_rfl, rfl⟩⟩
theorem ok34 : TabOk Try.prog gl exts (fun n => bif Nat.beq n 34 then af34 else none) := .leaf Try.func34 (by kernel_rfl) rfl
theorem ok35 : TabOk Try.prog gl exts (fun n => bif Nat.beq n 35 then af35 else none) := .leaf Try.func35 (by kernel_rfl) rfl
theorem ok36 : TabOk Try.prog gl exts (fun n => bif Nat.beq n 36 then af36 else none) := .leaf Try.func36 (by kernel_rfl) rfl
theorem ok37 : TabOk Try.prog gl exts (fun n => bif Nat.beq n 37 then af37 else none) := .leaf Try.func37 (by kernel_rfl) rfl
theorem ok38 : TabOk Try.prog gl exts (fun n => bif Nat.beq n 38 then af38 else none) := .leaf Try.func38 (by kernel_rfl) rfl
theorem xok39 : ExtOk Try.prog 39 (.astore) := ⟨⟨Try.f39, Extern.Atomic.storeT, Try.func39, by kernel_rfl, by kernel_rfl, by kernel_rfl, by kernel_rfl, rfl⟩⟩
theorem ok40 : TabOk Try.prog gl exts (fun n => bif Nat.beq n 40 then af40 else none) := .leaf Try.func40 (by kernel_rfl) rfl
theorem xok41 : ExtOk Try.prog 41 (.nop) := ⟨⟨Try.f41, (fun _ => do mark .disable; pure Extern.Race.none_), Try.func41, by kernel_rfl, by kernel_rfl, by kernel_rfl, by kernel_rfl, (.inl rfl)⟩⟩
theorem xok42 : ExtOk Try.prog 42 (.acas .i32) := ⟨⟨Try.f42, (Extern.Atomic.casT (.int .i32)), Try.func42, by kernel_rfl, by kernel_rfl, by kernel_rfl, by kernel_rfl, rfl⟩⟩
theorem xok43 : ExtOk Try.prog 43 (.nop) := ⟨⟨Try.f43, (fun _ => do mark .enable; pure Extern.Race.none_), Try.func43, by kernel_rfl, by kernel_rfl, by kernel_rfl, by kernel_rfl, (.inr rfl)⟩⟩
theorem xok44 : ExtOk Try.prog 44 (.race) := ⟨⟨Try.f44, (Extern.Race.marked .acquire), Try.func44, by kernel_rfl, by kernel_rfl, by kernel_rfl, by kernel_rfl, (.inl rfl)⟩⟩
theorem ok45 : TabOk Try.prog gl exts (fun n => bif Nat.beq n 45 then af45 else none) := .leaf Try.func45 (by kernel_rfl) rfl
theorem xok46 : ExtOk Try.prog 46 (.race) := ⟨⟨Try.f46, (Extern.Race.marked .releaseMerge), Try.func46, by kernel_rfl, by kernel_rfl, by kernel_rfl, by kernel_rfl, (.inr rfl)⟩⟩
theorem xok47 : ExtOk Try.prog 47 (.aadd .i32) := ⟨⟨Try.f47, (Extern.Atomic.update (Op.intArith .add) .i32 true), Try.func47, by kernel_rfl, by kernel_rfl, by kernel_rfl, by kernel_rfl, rfl⟩⟩
theorem ok48 : TabOk Try.prog gl exts (fun n => bif Nat.beq n 48 then af48 else none) := .leaf Try.func48 (by kernel_rfl) rfl
theorem tab_ok : TabOk Try.prog gl exts tab0 := (.node (m := 21) (.node (m := 11) (.node (m := 6) (.node (m := 4) (.node (m := 3) ok2 ok3) (.node (m := 5) ok4 ok5)) (.node (m := 8) (.node (m := 7) ok6 ok7) (.node (m := 9) ok8 (.node (m := 10) ok9 ok10)))) (.node (m := 16) (.node (m := 13) (.node (m := 12) ok11 ok12) (.node (m := 14) ok13 (.node (m := 15) ok14 ok15))) (.node (m := 18) (.node (m := 17) ok16 ok17) (.node (m := 19) ok18 (.node (m := 20) ok19 ok20))))) (.node (m := 31) (.node (m := 26) (.node (m := 23) (.node (m := 22) ok21 ok22) (.node (m := 24) ok23 (.node (m := 25) ok24 ok25))) (.node (m := 28) (.node (m := 27) ok26 ok27) (.node (m := 29) ok28 (.node (m := 30) ok29 ok30)))) (.node (m := 37) (.node (m := 34) (.node (m := 32) ok31 ok32) (.node (m := 35) ok34 (.node (m := 36) ok35 ok36))) (.node (m := 40) (.node (m := 38) ok37 ok38) (.node (m := 45) ok40 (.node (m := 48) ok45 ok48))))))
theorem exts_ok : ∀ f k, exts f = some k → ExtOk Try.prog f k := by
  intro f k h
  unfold exts at h
  cases hb : Nat.beq f 47
  case true =>
    obtain rfl := Nat.eq_of_beq_eq_true hb
    simp only [hb, cond, Option.some.injEq] at h; subst h
    exact xok47
  simp only [hb, cond] at h
  cases hb : Nat.beq f 46
  case true =>
    obtain rfl := Nat.eq_of_beq_eq_true hb
    simp only [hb, cond, Option.some.injEq] at h; subst h
    exact xok46
  simp only [hb, cond] at h
  cases hb : Nat.beq f 44
  case true =>
    obtain rfl := Nat.eq_of_beq_eq_true hb
    simp only [hb, cond, Option.some.injEq] at h; subst h
    exact xok44
  simp only [hb, cond] at h
  cases hb : Nat.beq f 43
  case true =>
    obtain rfl := Nat.eq_of_beq_eq_true hb
    simp only [hb, cond, Option.some.injEq] at h; subst h
    exact xok43
  simp only [hb, cond] at h
  cases hb : Nat.beq f 42
  case true =>
    obtain rfl := Nat.eq_of_beq_eq_true hb
    simp only [hb, cond, Option.some.injEq] at h; subst h
    exact xok42
  simp only [hb, cond] at h
  cases hb : Nat.beq f 41
  case true =>
    obtain rfl := Nat.eq_of_beq_eq_true hb
    simp only [hb, cond, Option.some.injEq] at h; subst h
    exact xok41
  simp only [hb, cond] at h
  cases hb : Nat.beq f 39
  case true =>
    obtain rfl := Nat.eq_of_beq_eq_true hb
    simp only [hb, cond, Option.some.injEq] at h; subst h
    exact xok39
  simp only [hb, cond] at h
  cases hb : Nat.beq f 33
  case true =>
    obtain rfl := Nat.eq_of_beq_eq_true hb
    simp only [hb, cond, Option.some.injEq] at h; subst h
    exact xok33
  simp only [hb, cond] at h
  cases h
theorem mixed : Try.prog.follows .mixedOrders = true := by kernel_rfl
end Go.Proofs.Ytmclonbopcnoeaa.Tab
