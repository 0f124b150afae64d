/- The table of the abstract functions: written by a program of ours (wip/tools/mkT.py): for each function advice alone; what is made of it the kernel computes. -/
import Derived.Test.YtmclonbopcnoeaaA2
import Derived.Test.YtmclonbopcnoeaaProg
namespace Go.Proofs.Ytmclonbopcnoeaa.Tab
open Go Go.Ab Go.Proofs
def gl : Gl := fun _ => none
def exts : Exts := fun n => bif Nat.beq n 47 then some (Ext.aadd .i32) else (bif Nat.beq n 46 then some (Ext.race) else (bif Nat.beq n 44 then some (Ext.race) else (bif Nat.beq n 43 then some (Ext.nop) else (bif Nat.beq n 42 then some (Ext.acas .i32) else (bif Nat.beq n 41 then some (Ext.nop) else (bif Nat.beq n 39 then some (Ext.astore) else (bif Nat.beq n 33 then some (Ext.aload .u32) else (none))))))))
def adv2 : Adv := ⟨[], [], [], [], 0⟩
noncomputable def af2 : Option AFn := compileFn Try.prog gl exts Try.f2 adv2
def adv3 : Adv := ⟨[], [], [], [[0, 1, 2, 6, 7, 8, 9, 17, 18, 19]], 0⟩
noncomputable def af3 : Option AFn := compileFn Try.prog gl exts Try.f3 adv3
def adv4 : Adv := ⟨[], [], [], [[0, 1, 4, 5, 6, 7, 8, 10, 11, 12]], 0⟩
noncomputable def af4 : Option AFn := compileFn Try.prog gl exts Try.f4 adv4
def adv5 : Adv := ⟨[], [], [], [], 0⟩
noncomputable def af5 : Option AFn := compileFn Try.prog gl exts Try.f5 adv5
def adv6 : Adv := ⟨[], [], [], [], 0⟩
noncomputable def af6 : Option AFn := compileFn Try.prog gl exts Try.f6 adv6
def adv7 : Adv := ⟨[7], [], [(15, 7), (13, 7), (11, 7)], [], 0⟩
noncomputable def af7 : Option AFn := compileFn Try.prog gl exts Try.f7 adv7
def adv8 : Adv := ⟨[5], [], [(12, 5), (10, 5), (8, 5)], [], 0⟩
noncomputable def af8 : Option AFn := compileFn Try.prog gl exts Try.f8 adv8
def adv9 : Adv := ⟨[], [], [], [], 0⟩
noncomputable def af9 : Option AFn := compileFn Try.prog gl exts Try.f9 adv9
def adv10 : Adv := ⟨[], [], [], [], 0⟩
noncomputable def af10 : Option AFn := compileFn Try.prog gl exts Try.f10 adv10
def adv11 : Adv := ⟨[], [], [], [], 0⟩
noncomputable def af11 : Option AFn := compileFn Try.prog gl exts Try.f11 adv11
def adv12 : Adv := ⟨[], [], [], [], 0⟩
noncomputable def af12 : Option AFn := compileFn Try.prog gl exts Try.f12 adv12
def adv13 : Adv := ⟨[], [], [], [], 0⟩
noncomputable def af13 : Option AFn := compileFn Try.prog gl exts Try.f13 adv13
def adv14 : Adv := ⟨[], [], [], [], 0⟩
noncomputable def af14 : Option AFn := compileFn Try.prog gl exts Try.f14 adv14
def adv15 : Adv := ⟨[], [], [], [], 0⟩
noncomputable def af15 : Option AFn := compileFn Try.prog gl exts Try.f15 adv15
def adv16 : Adv := ⟨[], [], [], [], 0⟩
noncomputable def af16 : Option AFn := compileFn Try.prog gl exts Try.f16 adv16
def adv17 : Adv := ⟨[], [], [], [[0, 1, 4, 5]], 0⟩
noncomputable def af17 : Option AFn := compileFn Try.prog gl exts Try.f17 adv17
def adv18 : Adv := ⟨[], [], [], [[0, 2, 3, 4]], 0⟩
noncomputable def af18 : Option AFn := compileFn Try.prog gl exts Try.f18 adv18
def adv19 : Adv := ⟨[4], [], [], [], 0⟩
noncomputable def af19 : Option AFn := compileFn Try.prog gl exts Try.f19 adv19
def adv20 : Adv := ⟨[2], [], [], [[0, 2, 3, 4]], 0⟩
noncomputable def af20 : Option AFn := compileFn Try.prog gl exts Try.f20 adv20
def adv21 : Adv := ⟨[3], [], [], [], 0⟩
noncomputable def af21 : Option AFn := compileFn Try.prog gl exts Try.f21 adv21
def adv22 : Adv := ⟨[], [], [], [[0, 1, 4, 5, 6]], 0⟩
noncomputable def af22 : Option AFn := compileFn Try.prog gl exts Try.f22 adv22
def adv23 : Adv := ⟨[], [], [], [], 0⟩
noncomputable def af23 : Option AFn := compileFn Try.prog gl exts Try.f23 adv23
def adv24 : Adv := ⟨[], [], [], [], 0⟩
noncomputable def af24 : Option AFn := compileFn Try.prog gl exts Try.f24 adv24
def adv25 : Adv := ⟨[], [], [], [], 0⟩
noncomputable def af25 : Option AFn := compileFn Try.prog gl exts Try.f25 adv25
def adv26 : Adv := ⟨[], [], [], [], 0⟩
noncomputable def af26 : Option AFn := compileFn Try.prog gl exts Try.f26 adv26
def adv27 : Adv := ⟨[], [], [], [], 0⟩
noncomputable def af27 : Option AFn := compileFn Try.prog gl exts Try.f27 adv27
def adv28 : Adv := ⟨[2], [], [(35, 2), (31, 2), (29, 2), (23, 2)], [[0, 13, 14, 15]], 0⟩
noncomputable def af28 : Option AFn := compileFn Try.prog gl exts Try.f28 adv28
def adv29 : Adv := ⟨[], [], [], [], 0⟩
noncomputable def af29 : Option AFn := compileFn Try.prog gl exts Try.f29 adv29
def adv30 : Adv := ⟨[], [], [], [], 0⟩
noncomputable def af30 : Option AFn := compileFn Try.prog gl exts Try.f30 adv30
def adv31 : Adv := ⟨[], [], [], [], 0⟩
noncomputable def af31 : Option AFn := compileFn Try.prog gl exts Try.f31 adv31
def adv32 : Adv := ⟨[], [], [], [], 0⟩
noncomputable def af32 : Option AFn := compileFn Try.prog gl exts Try.f32 adv32
def adv34 : Adv := ⟨[], [], [], [], 0⟩
noncomputable def af34 : Option AFn := compileFn Try.prog gl exts Try.f34 adv34
def adv35 : Adv := ⟨[], [], [], [], 0⟩
noncomputable def af35 : Option AFn := compileFn Try.prog gl exts Try.f35 adv35
def adv36 : Adv := ⟨[], [], [], [], 0⟩
noncomputable def af36 : Option AFn := compileFn Try.prog gl exts Try.f36 adv36
def adv37 : Adv := ⟨[], [], [], [], 0⟩
noncomputable def af37 : Option AFn := compileFn Try.prog gl exts Try.f37 adv37
def adv38 : Adv := ⟨[], [], [], [], 0⟩
noncomputable def af38 : Option AFn := compileFn Try.prog gl exts Try.f38 adv38
def adv40 : Adv := ⟨[], [], [], [], 0⟩
noncomputable def af40 : Option AFn := compileFn Try.prog gl exts Try.f40 adv40
def adv45 : Adv := ⟨[], [], [], [[0, 2, 3, 4, 5, 6]], 0⟩
noncomputable def af45 : Option AFn := compileFn Try.prog gl exts Try.f45 adv45
def adv48 : Adv := ⟨[], [], [], [[0, 1, 4]], 0⟩
noncomputable def af48 : Option AFn := compileFn Try.prog gl exts Try.f48 adv48
noncomputable def tab0 (n : Nat) : Option AFn := bif Nat.blt n 21 then (bif Nat.blt n 11 then (bif Nat.blt n 6 then (bif Nat.blt n 4 then (bif Nat.blt n 3 then (bif Nat.beq n 2 then af2 else none) else (bif Nat.beq n 3 then af3 else none)) else (bif Nat.blt n 5 then (bif Nat.beq n 4 then af4 else none) else (bif Nat.beq n 5 then af5 else none))) else (bif Nat.blt n 8 then (bif Nat.blt n 7 then (bif Nat.beq n 6 then af6 else none) else (bif Nat.beq n 7 then af7 else none)) else (bif Nat.blt n 9 then (bif Nat.beq n 8 then af8 else none) else (bif Nat.blt n 10 then (bif Nat.beq n 9 then af9 else none) else (bif Nat.beq n 10 then af10 else none))))) else (bif Nat.blt n 16 then (bif Nat.blt n 13 then (bif Nat.blt n 12 then (bif Nat.beq n 11 then af11 else none) else (bif Nat.beq n 12 then af12 else none)) else (bif Nat.blt n 14 then (bif Nat.beq n 13 then af13 else none) else (bif Nat.blt n 15 then (bif Nat.beq n 14 then af14 else none) else (bif Nat.beq n 15 then af15 else none)))) else (bif Nat.blt n 18 then (bif Nat.blt n 17 then (bif Nat.beq n 16 then af16 else none) else (bif Nat.beq n 17 then af17 else none)) else (bif Nat.blt n 19 then (bif Nat.beq n 18 then af18 else none) else (bif Nat.blt n 20 then (bif Nat.beq n 19 then af19 else none) else (bif Nat.beq n 20 then af20 else none)))))) else (bif Nat.blt n 31 then (bif Nat.blt n 26 then (bif Nat.blt n 23 then (bif Nat.blt n 22 then (bif Nat.beq n 21 then af21 else none) else (bif Nat.beq n 22 then af22 else none)) else (bif Nat.blt n 24 then (bif Nat.beq n 23 then af23 else none) else (bif Nat.blt n 25 then (bif Nat.beq n 24 then af24 else none) else (bif Nat.beq n 25 then af25 else none)))) else (bif Nat.blt n 28 then (bif Nat.blt n 27 then (bif Nat.beq n 26 then af26 else none) else (bif Nat.beq n 27 then af27 else none)) else (bif Nat.blt n 29 then (bif Nat.beq n 28 then af28 else none) else (bif Nat.blt n 30 then (bif Nat.beq n 29 then af29 else none) else (bif Nat.beq n 30 then af30 else none))))) else (bif Nat.blt n 37 then (bif Nat.blt n 34 then (bif Nat.blt n 32 then (bif Nat.beq n 31 then af31 else none) else (bif Nat.beq n 32 then af32 else none)) else (bif Nat.blt n 35 then (bif Nat.beq n 34 then af34 else none) else (bif Nat.blt n 36 then (bif Nat.beq n 35 then af35 else none) else (bif Nat.beq n 36 then af36 else none)))) else (bif Nat.blt n 40 then (bif Nat.blt n 38 then (bif Nat.beq n 37 then af37 else none) else (bif Nat.beq n 38 then af38 else none)) else (bif Nat.blt n 45 then (bif Nat.beq n 40 then af40 else none) else (bif Nat.blt n 48 then (bif Nat.beq n 45 then af45 else none) else (bif Nat.beq n 48 then af48 else none))))))
end Go.Proofs.Ytmclonbopcnoeaa.Tab
