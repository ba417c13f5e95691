/-
  The rules of the simulation, bound together.
-/
import Derived.Test.YtddekdgggpifmaaGxAll0
namespace Go.Gx
set_option linter.unusedSimpArgs false
set_option linter.unusedVariables false
theorem gxPre : (((((((∀ {P : Go.Program} {k : List Go.Gx.AItem} {R : Go.Gx.Post} {φ : Go.Gx.Frame} {H : Go.Gx.Heap} {a b : Go.Gx.ACode}, Go.Gx.run P (Go.Gx.ACode.seq a b) k R φ H = Go.Gx.run P a (Go.Gx.AItem.code b :: k) R φ H) ∧
  (∀ {P : Go.Program} {k : List Go.Gx.AItem} {R : Go.Gx.Post} {φ : Go.Gx.Frame} {H : Go.Gx.Heap} {l : List Go.Gx.AStep}, Go.Gx.run P (Go.Gx.ACode.ops l) k R φ H = Go.Gx.runOps P l k R φ H)) ∧
  ((∀ {P : Go.Program} {k : List Go.Gx.AItem} {R : Go.Gx.Post} {φ : Go.Gx.Frame} {H : Go.Gx.Heap} {id : Nat} {a : Go.Gx.ACode}, Go.Gx.run P (Go.Gx.ACode.block id a) k R φ H = Go.Gx.run P a (Go.Gx.AItem.endB id :: k) R φ H) ∧
  (∀ {P : Go.Program} {k : List Go.Gx.AItem} {R : Go.Gx.Post} {φ : Go.Gx.Frame} {H : Go.Gx.Heap} {live : List Nat} {a : Go.Gx.ACode}, Go.Gx.run P (Go.Gx.ACode.loop live a) k R φ H = Go.Gx.loopR P live (List.map (Go.Gx.Frame.get φ) live) a k R H))) ∧
  (((∀ {P : Go.Program} {k : List Go.Gx.AItem} {R : Go.Gx.Post} {φ : Go.Gx.Frame} {H : Go.Gx.Heap} {c : Go.Operand} {a b : Go.Gx.ACode}, Go.Gx.run P (Go.Gx.ACode.cond c a b) k R φ H = Go.Gx.condR P (Go.Gx.Frame.ev φ c) a b k R φ H) ∧
  (∀ {P : Go.Program} {k : List Go.Gx.AItem} {R : Go.Gx.Post} {φ : Go.Gx.Frame} {H : Go.Gx.Heap} {id : Nat}, Go.Gx.run P (Go.Gx.ACode.exit id) k R φ H = Go.Gx.fin P (Go.Gx.AExit.exit id) k R φ H)) ∧
  ((∀ {P : Go.Program} {k : List Go.Gx.AItem} {R : Go.Gx.Post} {φ : Go.Gx.Frame} {H : Go.Gx.Heap}, Go.Gx.run P Go.Gx.ACode.skip k R φ H = Go.Gx.fin P Go.Gx.AExit.normal k R φ H) ∧
  (∀ {P : Go.Program} {k : List Go.Gx.AItem} {R : Go.Gx.Post} {φ : Go.Gx.Frame} {H : Go.Gx.Heap}, Go.Gx.run P Go.Gx.ACode.ret k R φ H = Go.Gx.fin P Go.Gx.AExit.ret k R φ H)))) ∧
  ((((∀ {P : Go.Program} {k : List Go.Gx.AItem} {R : Go.Gx.Post} {φ : Go.Gx.Frame} {H : Go.Gx.Heap} {L : List Nat} {a : Go.Gx.ACode}, Go.Gx.run P (Go.Gx.ACode.keep L a) k R φ H = Go.Gx.keepR P (Go.Gx.Frame.keep L φ) a k R H) ∧
  (∀ {P : Go.Program} {k : List Go.Gx.AItem} {R : Go.Gx.Post} {φ : Go.Gx.Frame} {H : Go.Gx.Heap} {b : Go.Gx.ACode}, Go.Gx.fin P Go.Gx.AExit.normal (Go.Gx.AItem.code b :: k) R φ H = Go.Gx.run P b k R φ H)) ∧
  ((∀ {P : Go.Program} {k : List Go.Gx.AItem} {R : Go.Gx.Post} {φ : Go.Gx.Frame} {H : Go.Gx.Heap} {id : Nat}, Go.Gx.fin P Go.Gx.AExit.normal (Go.Gx.AItem.endB id :: k) R φ H = Go.Gx.fin P Go.Gx.AExit.normal k R φ H) ∧
  (∀ {P : Go.Program} {k : List Go.Gx.AItem} {R : Go.Gx.Post} {φ : Go.Gx.Frame} {H : Go.Gx.Heap} {id : Nat}, Go.Gx.fin P (Go.Gx.AExit.exit id) (Go.Gx.AItem.endB id :: k) R φ H = Go.Gx.fin P Go.Gx.AExit.normal k R φ H))) ∧
  (((∀ {P : Go.Program} {k : List Go.Gx.AItem} {R : Go.Gx.Post} {φ : Go.Gx.Frame} {H : Go.Gx.Heap} {id j : Nat}, Nat.beq j id = Bool.false → Go.Gx.fin P (Go.Gx.AExit.exit j) (Go.Gx.AItem.endB id :: k) R φ H = Go.Gx.fin P (Go.Gx.AExit.exit j) k R φ H) ∧
  (∀ {P : Go.Program} {k : List Go.Gx.AItem} {R : Go.Gx.Post} {φ : Go.Gx.Frame} {H : Go.Gx.Heap} {id : Nat}, Go.Gx.fin P Go.Gx.AExit.ret (Go.Gx.AItem.endB id :: k) R φ H = Go.Gx.fin P Go.Gx.AExit.ret k R φ H)) ∧
  ((∀ {P : Go.Program} {k : List Go.Gx.AItem} {R : Go.Gx.Post} {φ : Go.Gx.Frame} {H : Go.Gx.Heap} {b : Go.Gx.ACode} {j : Nat}, Go.Gx.fin P (Go.Gx.AExit.exit j) (Go.Gx.AItem.code b :: k) R φ H = Go.Gx.fin P (Go.Gx.AExit.exit j) k R φ H) ∧
  (∀ {P : Go.Program} {k : List Go.Gx.AItem} {R : Go.Gx.Post} {φ : Go.Gx.Frame} {H : Go.Gx.Heap} {b : Go.Gx.ACode}, Go.Gx.fin P Go.Gx.AExit.ret (Go.Gx.AItem.code b :: k) R φ H = Go.Gx.fin P Go.Gx.AExit.ret k R φ H))))) ∧
  (((((∀ {P : Go.Program} {k : List Go.Gx.AItem} {R : Go.Gx.Post} {φ : Go.Gx.Frame} {H : Go.Gx.Heap} {live : List Nat} {N : List Go.Value → Go.Gx.Heap → Prop}, Go.Gx.fin P Go.Gx.AExit.normal (Go.Gx.AItem.mark live N :: k) R φ H = N (List.map (Go.Gx.Frame.get φ) live) H) ∧
  (∀ {P : Go.Program} {k : List Go.Gx.AItem} {R : Go.Gx.Post} {φ : Go.Gx.Frame} {H : Go.Gx.Heap} {live : List Nat} {N : List Go.Value → Go.Gx.Heap → Prop} {j : Nat}, Go.Gx.fin P (Go.Gx.AExit.exit j) (Go.Gx.AItem.mark live N :: k) R φ H = Go.Gx.fin P (Go.Gx.AExit.exit j) k R φ H)) ∧
  ((∀ {P : Go.Program} {k : List Go.Gx.AItem} {R : Go.Gx.Post} {φ : Go.Gx.Frame} {H : Go.Gx.Heap} {live : List Nat} {N : List Go.Value → Go.Gx.Heap → Prop}, Go.Gx.fin P Go.Gx.AExit.ret (Go.Gx.AItem.mark live N :: k) R φ H = Go.Gx.fin P Go.Gx.AExit.ret k R φ H) ∧
  (∀ {P : Go.Program} {φ : Go.Gx.Frame} {H : Go.Gx.Heap} {res : List Go.Gx.ARes} {S : Go.Value → Go.Gx.Heap → Prop}, Go.Gx.fin P Go.Gx.AExit.ret [] (Go.Gx.finQ res S) φ H = Go.Gx.endR (Go.Gx.ares φ H res) S H))) ∧
  (((∀ {P : Go.Program} {φ : Go.Gx.Frame} {H : Go.Gx.Heap} {res : List Go.Gx.ARes} {S : Go.Value → Go.Gx.Heap → Prop}, Go.Gx.fin P Go.Gx.AExit.normal [] (Go.Gx.finQ res S) φ H = Go.Gx.endR (Go.Gx.ares φ H res) S H) ∧
  (∀ {P : Go.Program} {k : List Go.Gx.AItem} {R : Go.Gx.Post} {φ : Go.Gx.Frame} {H : Go.Gx.Heap}, Go.Gx.runOps P [] k R φ H = Go.Gx.fin P Go.Gx.AExit.normal k R φ H)) ∧
  ((∀ {P : Go.Program} {k : List Go.Gx.AItem} {R : Go.Gx.Post} {φ : Go.Gx.Frame} {H : Go.Gx.Heap} {r : List Go.Gx.AStep} {i : Nat} {d : Option Nat} {op : Go.Gx.AOp} {g : Nat} {w : Bool} {rc : Go.Gx.RC}, Go.Gx.runOps P (Go.Gx.AStep.mk i d op (Option.some (g, w)) rc :: r) k R φ H = Go.Gx.grdR P (Go.Gx.guardW (Go.Gx.Frame.get φ g) w) (Go.Gx.AStep.mk i d op Option.none rc) r k R φ H) ∧
  (∀ {P : Go.Program} {k : List Go.Gx.AItem} {R : Go.Gx.Post} {φ : Go.Gx.Frame} {H : Go.Gx.Heap} {r : List Go.Gx.AStep} {i : Nat} {x : Go.Operand} {d : Nat}, Go.Gx.runOps P (Go.Gx.AStep.mk i (Option.some d) (Go.Gx.AOp.mv x) Option.none [] :: r) k R φ H = Go.Gx.optR P (Option.some (Go.Gx.Frame.ev φ x)) (Option.some d) [] r k R φ H)))) ∧
  ((((∀ {P : Go.Program} {k : List Go.Gx.AItem} {R : Go.Gx.Post} {φ : Go.Gx.Frame} {H : Go.Gx.Heap} {r : List Go.Gx.AStep} {i : Nat} {d : Option Nat} {rc : Go.Gx.RC} {x y z : Go.Operand}, Go.Gx.runOps P (Go.Gx.AStep.mk i d (Go.Gx.AOp.pick z x y) Option.none rc :: r) k R φ H = Go.Gx.optR P (Go.Gx.aPick (Go.Gx.Frame.ev φ z) (Go.Gx.Frame.ev φ x) (Go.Gx.Frame.ev φ y)) d rc r k R φ H) ∧
  (∀ {P : Go.Program} {k : List Go.Gx.AItem} {R : Go.Gx.Post} {φ : Go.Gx.Frame} {H : Go.Gx.Heap} {r : List Go.Gx.AStep} {i : Nat} {d : Option Nat} {rc : Go.Gx.RC} {x : Go.Operand}, Go.Gx.runOps P (Go.Gx.AStep.mk i d (Go.Gx.AOp.ld x) Option.none rc :: r) k R φ H = Go.Gx.optR P (Go.Gx.aLd (Go.Gx.Frame.ev φ x) H) d rc r k R φ H)) ∧
  ((∀ {P : Go.Program} {k : List Go.Gx.AItem} {R : Go.Gx.Post} {φ : Go.Gx.Frame} {H : Go.Gx.Heap} {r : List Go.Gx.AStep} {i : Nat} {d : Option Nat} {rc : Go.Gx.RC} {x : Go.Operand} {n : Nat}, Go.Gx.runOps P (Go.Gx.AStep.mk i d (Go.Gx.AOp.ldn n x) Option.none rc :: r) k R φ H = Go.Gx.optR P (Go.Gx.aLdn n (Go.Gx.Frame.ev φ x) H) d rc r k R φ H) ∧
  (∀ {P : Go.Program} {k : List Go.Gx.AItem} {R : Go.Gx.Post} {φ : Go.Gx.Frame} {H : Go.Gx.Heap} {r : List Go.Gx.AStep} {i : Nat} {d : Option Nat} {rc : Go.Gx.RC} {x : Go.Operand} {n : Nat}, Go.Gx.runOps P (Go.Gx.AStep.mk i d (Go.Gx.AOp.fa n x) Option.none rc :: r) k R φ H = Go.Gx.optR P (Go.Gx.aFa n (Go.Gx.Frame.ev φ x)) d rc r k R φ H))) ∧
  (((∀ {P : Go.Program} {k : List Go.Gx.AItem} {R : Go.Gx.Post} {φ : Go.Gx.Frame} {H : Go.Gx.Heap} {r : List Go.Gx.AStep} {i : Nat} {d : Option Nat} {rc : Go.Gx.RC} {x : Go.Operand} {n : Nat}, Go.Gx.runOps P (Go.Gx.AStep.mk i d (Go.Gx.AOp.fld n x) Option.none rc :: r) k R φ H = Go.Gx.optR P (Go.Gx.aFld n (Go.Gx.Frame.ev φ x)) d rc r k R φ H) ∧
  (∀ {P : Go.Program} {k : List Go.Gx.AItem} {R : Go.Gx.Post} {φ : Go.Gx.Frame} {H : Go.Gx.Heap} {r : List Go.Gx.AStep} {i : Nat} {d : Option Nat} {rc : Go.Gx.RC} {x : Go.Operand} {n m : Nat}, Go.Gx.runOps P (Go.Gx.AStep.mk i d (Go.Gx.AOp.fldn n m x) Option.none rc :: r) k R φ H = Go.Gx.optR P (Go.Gx.aFldn n m (Go.Gx.Frame.ev φ x)) d rc r k R φ H)) ∧
  ((∀ {P : Go.Program} {k : List Go.Gx.AItem} {R : Go.Gx.Post} {φ : Go.Gx.Frame} {H : Go.Gx.Heap} {r : List Go.Gx.AStep} {i : Nat} {d : Option Nat} {rc : Go.Gx.RC} {x y : Go.Operand}, Go.Gx.runOps P (Go.Gx.AStep.mk i d (Go.Gx.AOp.ia x y) Option.none rc :: r) k R φ H = Go.Gx.optR P (Go.Gx.aIa (Go.Gx.Frame.ev φ x) (Go.Gx.Frame.ev φ y) H) d rc r k R φ H) ∧
  (∀ {P : Go.Program} {k : List Go.Gx.AItem} {R : Go.Gx.Post} {φ : Go.Gx.Frame} {H : Go.Gx.Heap} {r : List Go.Gx.AStep} {i : Nat} {d : Option Nat} {rc : Go.Gx.RC} {x y : Go.Operand} {op : Go.BinOp}, Go.Gx.runOps P (Go.Gx.AStep.mk i d (Go.Gx.AOp.bin op x y) Option.none rc :: r) k R φ H = Go.Gx.optR P (Go.Gx.abin op (Go.Gx.Frame.ev φ x) (Go.Gx.Frame.ev φ y)) d rc r k R φ H)))))) ∧
  ((((((∀ {P : Go.Program} {k : List Go.Gx.AItem} {R : Go.Gx.Post} {φ : Go.Gx.Frame} {H : Go.Gx.Heap} {r : List Go.Gx.AStep} {i : Nat} {d : Option Nat} {rc : Go.Gx.RC} {x y : Go.Operand} {n : Bool}, Go.Gx.runOps P (Go.Gx.AStep.mk i d (Go.Gx.AOp.beq n x y) Option.none rc :: r) k R φ H = Go.Gx.optR P (Go.Gx.aBeq n (Go.Gx.Frame.ev φ x) (Go.Gx.Frame.ev φ y)) d rc r k R φ H) ∧
  (∀ {P : Go.Program} {k : List Go.Gx.AItem} {R : Go.Gx.Post} {φ : Go.Gx.Frame} {H : Go.Gx.Heap} {r : List Go.Gx.AStep} {i : Nat} {d : Option Nat} {rc : Go.Gx.RC} {x : Go.Operand} {op : Go.UnOp}, Go.Gx.runOps P (Go.Gx.AStep.mk i d (Go.Gx.AOp.un op x) Option.none rc :: r) k R φ H = Go.Gx.optR P (Go.Gx.aun op (Go.Gx.Frame.ev φ x)) d rc r k R φ H)) ∧
  ((∀ {P : Go.Program} {k : List Go.Gx.AItem} {R : Go.Gx.Post} {φ : Go.Gx.Frame} {H : Go.Gx.Heap} {r : List Go.Gx.AStep} {i : Nat} {d : Option Nat} {rc : Go.Gx.RC} {x : Go.Operand} {c : Go.Gx.CD}, Go.Gx.runOps P (Go.Gx.AStep.mk i d (Go.Gx.AOp.cv c x) Option.none rc :: r) k R φ H = Go.Gx.optR P (Go.Gx.acv c (Go.Gx.Frame.ev φ x)) d rc r k R φ H) ∧
  (∀ {P : Go.Program} {k : List Go.Gx.AItem} {R : Go.Gx.Post} {φ : Go.Gx.Frame} {H : Go.Gx.Heap} {r : List Go.Gx.AStep} {i : Nat} {d : Option Nat} {rc : Go.Gx.RC} {x : Go.Operand} {n : Nat}, Go.Gx.runOps P (Go.Gx.AStep.mk i d (Go.Gx.AOp.ext x n) Option.none rc :: r) k R φ H = Go.Gx.optR P (Go.Gx.aExt (Go.Gx.Frame.ev φ x) n) d rc r k R φ H))) ∧
  (((∀ {P : Go.Program} {k : List Go.Gx.AItem} {R : Go.Gx.Post} {φ : Go.Gx.Frame} {H : Go.Gx.Heap} {r : List Go.Gx.AStep} {i : Nat} {d : Option Nat} {rc : Go.Gx.RC} {x : Go.Operand}, Go.Gx.runOps P (Go.Gx.AStep.mk i d (Go.Gx.AOp.nc x) Option.none rc :: r) k R φ H = Go.Gx.optR P (Go.Gx.aNc (Go.Gx.Frame.ev φ x)) d rc r k R φ H) ∧
  (∀ {P : Go.Program} {k : List Go.Gx.AItem} {R : Go.Gx.Post} {φ : Go.Gx.Frame} {H : Go.Gx.Heap} {r : List Go.Gx.AStep} {i : Nat} {d : Option Nat} {rc : Go.Gx.RC} {f : Go.Fn} {a b : List Go.Operand}, Go.Gx.runOps P (Go.Gx.AStep.mk i d (Go.Gx.AOp.mkf f a b) Option.none rc :: r) k R φ H = Go.Gx.optR P (Option.some (Go.Value.func f (List.toArray (List.map (Go.Gx.Frame.ev φ) a)) (List.toArray (List.map (Go.Gx.Frame.ev φ) b)))) d rc r k R φ H)) ∧
  ((∀ {P : Go.Program} {k : List Go.Gx.AItem} {R : Go.Gx.Post} {φ : Go.Gx.Frame} {H : Go.Gx.Heap} {r : List Go.Gx.AStep} {i : Nat} {d : Option Nat} {rc : Go.Gx.RC} {tm : List Go.Value} {ps : List (Nat × Nat × Go.Operand)}, Go.Gx.runOps P (Go.Gx.AStep.mk i d (Go.Gx.AOp.bld tm ps) Option.none rc :: r) k R φ H = Go.Gx.optR P (Go.Gx.aBld tm (List.map (fun p => (Prod.fst p, Prod.fst (Prod.snd p), Go.Gx.Frame.ev φ (Prod.snd (Prod.snd p)))) ps)) d rc r k R φ H) ∧
  (∀ {P : Go.Program} {k : List Go.Gx.AItem} {R : Go.Gx.Post} {φ : Go.Gx.Frame} {H : Go.Gx.Heap} {r : List Go.Gx.AStep} {i : Nat} {d : Option Nat} {rc : Go.Gx.RC} {x : Go.Operand}, Go.Gx.runOps P (Go.Gx.AStep.mk i d (Go.Gx.AOp.len x) Option.none rc :: r) k R φ H = Go.Gx.optR P (Go.Gx.aLen (Go.Gx.Frame.ev φ x)) d rc r k R φ H)))) ∧
  ((((∀ {P : Go.Program} {k : List Go.Gx.AItem} {R : Go.Gx.Post} {φ : Go.Gx.Frame} {H : Go.Gx.Heap} {r : List Go.Gx.AStep} {i : Nat} {d : Option Nat} {rc : Go.Gx.RC} {x y : Go.Operand} {b : Bool}, Go.Gx.runOps P (Go.Gx.AStep.mk i d (Go.Gx.AOp.mnx b x y) Option.none rc :: r) k R φ H = Go.Gx.optR P (Go.Gx.aMnx b (Go.Gx.Frame.ev φ x) (Go.Gx.Frame.ev φ y)) d rc r k R φ H) ∧
  (∀ {P : Go.Program} {k : List Go.Gx.AItem} {R : Go.Gx.Post} {φ : Go.Gx.Frame} {H : Go.Gx.Heap} {r : List Go.Gx.AStep} {i : Nat} {d : Option Nat} {rc : Go.Gx.RC} {x : Go.Operand}, Go.Gx.runOps P (Go.Gx.AStep.mk i d (Go.Gx.AOp.re x) Option.none rc :: r) k R φ H = Go.Gx.optR P (Go.Gx.aRe (Go.Gx.Frame.ev φ x)) d rc r k R φ H)) ∧
  ((∀ {P : Go.Program} {k : List Go.Gx.AItem} {R : Go.Gx.Post} {φ : Go.Gx.Frame} {H : Go.Gx.Heap} {r : List Go.Gx.AStep} {i : Nat} {d : Option Nat} {rc : Go.Gx.RC} {x : Go.Operand}, Go.Gx.runOps P (Go.Gx.AStep.mk i d (Go.Gx.AOp.im x) Option.none rc :: r) k R φ H = Go.Gx.optR P (Go.Gx.aIm (Go.Gx.Frame.ev φ x)) d rc r k R φ H) ∧
  (∀ {P : Go.Program} {k : List Go.Gx.AItem} {R : Go.Gx.Post} {φ : Go.Gx.Frame} {H : Go.Gx.Heap} {r : List Go.Gx.AStep} {i : Nat} {d : Option Nat} {rc : Go.Gx.RC} {x y : Go.Operand}, Go.Gx.runOps P (Go.Gx.AStep.mk i d (Go.Gx.AOp.cx x y) Option.none rc :: r) k R φ H = Go.Gx.optR P (Go.Gx.aCx (Go.Gx.Frame.ev φ x) (Go.Gx.Frame.ev φ y)) d rc r k R φ H))) ∧
  (((∀ {P : Go.Program} {k : List Go.Gx.AItem} {R : Go.Gx.Post} {φ : Go.Gx.Frame} {H : Go.Gx.Heap} {r : List Go.Gx.AStep} {i : Nat} {d : Option Nat} {rc : Go.Gx.RC} {x y z : Go.Operand}, Go.Gx.runOps P (Go.Gx.AStep.mk i d (Go.Gx.AOp.slc x (Option.some y) (Option.some z)) Option.none rc :: r) k R φ H = Go.Gx.optR P (Go.Gx.aSlc (Go.Gx.Frame.ev φ x) (Go.Gx.Frame.ev φ y) (Go.Gx.Frame.ev φ z)) d rc r k R φ H) ∧
  (∀ {P : Go.Program} {k : List Go.Gx.AItem} {R : Go.Gx.Post} {φ : Go.Gx.Frame} {H : Go.Gx.Heap} {r : List Go.Gx.AStep} {i : Nat} {d : Option Nat} {rc : Go.Gx.RC} {x z : Go.Operand}, Go.Gx.runOps P (Go.Gx.AStep.mk i d (Go.Gx.AOp.slc x Option.none (Option.some z)) Option.none rc :: r) k R φ H = Go.Gx.optR P (Go.Gx.aSlc (Go.Gx.Frame.ev φ x) (Go.Value.int Go.IntKind.i64 0) (Go.Gx.Frame.ev φ z)) d rc r k R φ H)) ∧
  ((∀ {P : Go.Program} {k : List Go.Gx.AItem} {R : Go.Gx.Post} {φ : Go.Gx.Frame} {H : Go.Gx.Heap} {r : List Go.Gx.AStep} {i : Nat} {d : Option Nat} {rc : Go.Gx.RC} {x y : Go.Operand}, Go.Gx.runOps P (Go.Gx.AStep.mk i d (Go.Gx.AOp.slc x (Option.some y) Option.none) Option.none rc :: r) k R φ H = Go.Gx.optR P (Go.Gx.aSlcLo (Go.Gx.Frame.ev φ x) (Go.Gx.Frame.ev φ y)) d rc r k R φ H) ∧
  (∀ {P : Go.Program} {k : List Go.Gx.AItem} {R : Go.Gx.Post} {φ : Go.Gx.Frame} {H : Go.Gx.Heap} {r : List Go.Gx.AStep} {i : Nat} {d : Option Nat} {rc : Go.Gx.RC} {x : Go.Operand}, Go.Gx.runOps P (Go.Gx.AStep.mk i d (Go.Gx.AOp.f64bits x) Option.none rc :: r) k R φ H = Go.Gx.optR P (Go.Gx.aBits64 (Go.Gx.Frame.ev φ x)) d rc r k R φ H))))) ∧
  (((((∀ {P : Go.Program} {k : List Go.Gx.AItem} {R : Go.Gx.Post} {φ : Go.Gx.Frame} {H : Go.Gx.Heap} {r : List Go.Gx.AStep} {i : Nat} {d : Option Nat} {rc : Go.Gx.RC} {x : Go.Operand}, Go.Gx.runOps P (Go.Gx.AStep.mk i d (Go.Gx.AOp.f32bits x) Option.none rc :: r) k R φ H = Go.Gx.optR P (Go.Gx.aBits32 (Go.Gx.Frame.ev φ x)) d rc r k R φ H) ∧
  (∀ {P : Go.Program} {k : List Go.Gx.AItem} {R : Go.Gx.Post} {φ : Go.Gx.Frame} {H : Go.Gx.Heap} {r : List Go.Gx.AStep} {i : Nat} {d : Option Nat} {rc : Go.Gx.RC} {x : Go.Operand}, Go.Gx.runOps P (Go.Gx.AStep.mk i d (Go.Gx.AOp.f64from x) Option.none rc :: r) k R φ H = Go.Gx.optR P (Go.Gx.aFrom64 (Go.Gx.Frame.ev φ x)) d rc r k R φ H)) ∧
  ((∀ {P : Go.Program} {k : List Go.Gx.AItem} {R : Go.Gx.Post} {φ : Go.Gx.Frame} {H : Go.Gx.Heap} {r : List Go.Gx.AStep} {i : Nat} {d : Option Nat} {rc : Go.Gx.RC} {x : Go.Operand}, Go.Gx.runOps P (Go.Gx.AStep.mk i d (Go.Gx.AOp.f32from x) Option.none rc :: r) k R φ H = Go.Gx.optR P (Go.Gx.aFrom32 (Go.Gx.Frame.ev φ x)) d rc r k R φ H) ∧
  (∀ {P : Go.Program} {k : List Go.Gx.AItem} {R : Go.Gx.Post} {φ : Go.Gx.Frame} {H : Go.Gx.Heap} {r : List Go.Gx.AStep} {i : Nat} {d : Option Nat} {rc : Go.Gx.RC} {ty : Go.TypeId} {cs : List Go.Value}, Go.Gx.runOps P (Go.Gx.AStep.mk i d (Go.Gx.AOp.new ty cs) Option.none rc :: r) k R φ H = Go.Gx.effR P (Option.some (Go.Value.pointer (Option.some (Go.Addr.mk (Go.Gx.Heap.n H) 0 (Option.some (List.length cs)))), Go.Gx.Heap.new H (Go.Gx.Blk.mk Bool.true ty cs))) d rc r k R φ))) ∧
  (((∀ {P : Go.Program} {k : List Go.Gx.AItem} {R : Go.Gx.Post} {φ : Go.Gx.Frame} {H : Go.Gx.Heap} {r : List Go.Gx.AStep} {i : Nat} {d : Option Nat} {rc : Go.Gx.RC} {x : Go.Operand} {ty : Go.TypeId}, Go.Gx.runOps P (Go.Gx.AStep.mk i d (Go.Gx.AOp.box ty x) Option.none rc :: r) k R φ H = Go.Gx.effR P (Go.Gx.eBox ty (Go.Gx.Frame.ev φ x) H) d rc r k R φ) ∧
  (∀ {P : Go.Program} {k : List Go.Gx.AItem} {R : Go.Gx.Post} {φ : Go.Gx.Frame} {H : Go.Gx.Heap} {r : List Go.Gx.AStep} {i : Nat} {d : Option Nat} {rc : Go.Gx.RC} {ty n : Nat} {v : Go.Value} {ps : List (Nat × Go.Operand)}, Go.Gx.runOps P (Go.Gx.AStep.mk i d (Go.Gx.AOp.bsl ty n v ps) Option.none rc :: r) k R φ H = Go.Gx.effR P (Go.Gx.eBsl ty n v (List.map (fun p => (Prod.fst p, Go.Gx.Frame.ev φ (Prod.snd p))) ps) H) d rc r k R φ)) ∧
  ((∀ {P : Go.Program} {k : List Go.Gx.AItem} {R : Go.Gx.Post} {φ : Go.Gx.Frame} {H : Go.Gx.Heap} {r : List Go.Gx.AStep} {i : Nat} {d : Option Nat} {rc : Go.Gx.RC} {x y : Go.Operand} {ty n : Nat} {v : Go.Value}, Go.Gx.runOps P (Go.Gx.AStep.mk i d (Go.Gx.AOp.mks ty n v x y) Option.none rc :: r) k R φ H = Go.Gx.effR P (Go.Gx.eMks ty n v (Go.Gx.Frame.ev φ x) (Go.Gx.Frame.ev φ y) H) d rc r k R φ) ∧
  (∀ {P : Go.Program} {k : List Go.Gx.AItem} {R : Go.Gx.Post} {φ : Go.Gx.Frame} {H : Go.Gx.Heap} {r : List Go.Gx.AStep} {i : Nat} {d : Option Nat} {rc : Go.Gx.RC} {x y : Go.Operand}, Go.Gx.runOps P (Go.Gx.AStep.mk i d (Go.Gx.AOp.st x y) Option.none rc :: r) k R φ H = Go.Gx.effR P (Go.Gx.eSt (Go.Gx.Frame.ev φ x) (Go.Gx.Frame.ev φ y) H) d rc r k R φ)))) ∧
  ((((∀ {P : Go.Program} {k : List Go.Gx.AItem} {R : Go.Gx.Post} {φ : Go.Gx.Frame} {H : Go.Gx.Heap} {r : List Go.Gx.AStep} {i : Nat} {d : Option Nat} {rc : Go.Gx.RC} {x y : Go.Operand} {n : Nat}, Go.Gx.runOps P (Go.Gx.AStep.mk i d (Go.Gx.AOp.stn n x y) Option.none rc :: r) k R φ H = Go.Gx.effR P (Go.Gx.eStn n (Go.Gx.Frame.ev φ x) (Go.Gx.Frame.ev φ y) H) d rc r k R φ) ∧
  (∀ {P : Go.Program} {k : List Go.Gx.AItem} {R : Go.Gx.Post} {φ : Go.Gx.Frame} {H : Go.Gx.Heap} {r : List Go.Gx.AStep} {i : Nat} {d : Option Nat} {rc : Go.Gx.RC} {x y : Go.Operand} {ty n : Nat}, Go.Gx.runOps P (Go.Gx.AStep.mk i d (Go.Gx.AOp.app ty n x y) Option.none rc :: r) k R φ H = Go.Gx.effR P (Go.Gx.eApp ty n (Go.Gx.Frame.ev φ x) (Go.Gx.readSl H (Go.Gx.Frame.ev φ y)) H) d rc r k R φ)) ∧
  ((∀ {P : Go.Program} {k : List Go.Gx.AItem} {R : Go.Gx.Post} {φ : Go.Gx.Frame} {H : Go.Gx.Heap} {r : List Go.Gx.AStep} {i : Nat} {d : Option Nat} {rc : Go.Gx.RC} {x y : Go.Operand}, Go.Gx.runOps P (Go.Gx.AStep.mk i d (Go.Gx.AOp.cpy x y) Option.none rc :: r) k R φ H = Go.Gx.effR P (Go.Gx.eCpy (Go.Gx.Frame.ev φ x) (Go.Gx.readSl H (Go.Gx.Frame.ev φ y)) H) d rc r k R φ) ∧
  (∀ {P : Go.Program} {k : List Go.Gx.AItem} {R : Go.Gx.Post} {φ : Go.Gx.Frame} {H : Go.Gx.Heap} {r : List Go.Gx.AStep} {i : Nat} {d : Option Nat} {rc : Go.Gx.RC} {f : Go.FuncId} {a : List Go.Operand}, Go.Gx.runOps P (Go.Gx.AStep.mk i d (Go.Gx.AOp.call f a) Option.none rc :: r) k R φ H = Go.Gx.callR P f (List.map (Go.Gx.Frame.ev φ) a) d rc r k R φ H))) ∧
  (((∀ {P : Go.Program} {k : List Go.Gx.AItem} {R : Go.Gx.Post} {φ : Go.Gx.Frame} {H : Go.Gx.Heap} {r : List Go.Gx.AStep} {i : Nat} {d : Option Nat} {rc : Go.Gx.RC} {g : Go.Operand} {a : List Go.Operand}, Go.Gx.runOps P (Go.Gx.AStep.mk i d (Go.Gx.AOp.callv g a) Option.none rc :: r) k R φ H = Go.Gx.callvR P (Go.Gx.Frame.ev φ g) (List.map (Go.Gx.Frame.ev φ) a) d rc r k R φ H) ∧
  (∀ {P : Go.Program} {k : List Go.Gx.AItem} {R : Go.Gx.Post} {φ : Go.Gx.Frame} {H : Go.Gx.Heap} {i j : Nat} {a b : Go.Gx.ACode}, Go.Gx.run P (Go.Gx.ACode.both i j a b) k R φ H = Go.Gx.bothR P a b k R φ H)) ∧
  ((∀ {P : Go.Program} {k : List Go.Gx.AItem} {R : Go.Gx.Post} {φ : Go.Gx.Frame} {H : Go.Gx.Heap} {r : List Go.Gx.AStep} {i : Nat} {d : Option Nat} {rc : Go.Gx.RC} {x : Go.Operand}, Go.Gx.runOps P (Go.Gx.AStep.mk i d (Go.Gx.AOp.fsqrt x) Option.none rc :: r) k R φ H = Go.Gx.optR P (Go.Gx.aSqrt (Go.Gx.Frame.ev φ x)) d rc r k R φ H) ∧
  (∀ {P : Go.Program} {k : List Go.Gx.AItem} {R : Go.Gx.Post} {φ : Go.Gx.Frame} {H : Go.Gx.Heap} {r : List Go.Gx.AStep} {i : Nat} {d : Option Nat} {rc : Go.Gx.RC} {x : Go.Operand} {n : Nat}, Go.Gx.runOps P (Go.Gx.AStep.mk i d (Go.Gx.AOp.fint n x) Option.none rc :: r) k R φ H = Go.Gx.optR P (Go.Gx.aInt n (Go.Gx.Frame.ev φ x)) d rc r k R φ H))))))) :=
  ⟨⟨⟨⟨⟨⟨@run_seq, @run_ops⟩, ⟨@run_block, @run_loop⟩⟩, ⟨⟨@run_cond, @run_exit⟩, ⟨@run_skip, @run_ret⟩⟩⟩, ⟨⟨⟨@run_keep, @fin_code⟩, ⟨@fin_end, @fin_end_here⟩⟩, ⟨⟨@fin_end_exit, @fin_end_ret⟩, ⟨@fin_code_exit, @fin_code_ret⟩⟩⟩⟩, ⟨⟨⟨⟨@fin_mark, @fin_mark_exit⟩, ⟨@fin_mark_ret, @fin_ret⟩⟩, ⟨⟨@fin_normal, @ops_nil⟩, ⟨@ops_guard, @o_mv⟩⟩⟩, ⟨⟨⟨@o_pick, @o_ld⟩, ⟨@o_ldn, @o_fa⟩⟩, ⟨⟨@o_fld, @o_fldn⟩, ⟨@o_ia, @o_bin⟩⟩⟩⟩⟩, ⟨⟨⟨⟨⟨@o_beq, @o_un⟩, ⟨@o_cv, @o_ext⟩⟩, ⟨⟨@o_nc, @o_mkf⟩, ⟨@o_bld, @o_len⟩⟩⟩, ⟨⟨⟨@o_mnx, @o_re⟩, ⟨@o_im, @o_cx⟩⟩, ⟨⟨@o_slc2, @o_slc0⟩, ⟨@o_slc1, @o_f64bits⟩⟩⟩⟩, ⟨⟨⟨⟨@o_f32bits, @o_f64from⟩, ⟨@o_f32from, @o_new⟩⟩, ⟨⟨@o_box, @o_bsl⟩, ⟨@o_mks, @o_st⟩⟩⟩, ⟨⟨⟨@o_stn, @o_app⟩, ⟨@o_cpy, @o_call⟩⟩, ⟨⟨@o_callv, @run_both⟩, ⟨@o_fsqrt, @o_fint⟩⟩⟩⟩⟩⟩
theorem gxPost : ((((((((∀ {P : Go.Program} {k : List Go.Gx.AItem} {R : Go.Gx.Post} {φ : Go.Gx.Frame} {H : Go.Gx.Heap} {r : List Go.Gx.AStep} {v : Go.Value} {d : Nat}, Go.Gx.optR P (Option.some v) (Option.some d) [] r k R φ H = Go.Gx.runOps P r k R ((d, v) :: φ) H) ∧
  (∀ {P : Go.Program} {k : List Go.Gx.AItem} {R : Go.Gx.Post} {φ : Go.Gx.Frame} {r : List Go.Gx.AStep} {v : Go.Value} {H' : Go.Gx.Heap} {d : Option Nat} {rc : Go.Gx.RC}, Go.Gx.effR P (Option.some (v, H')) d rc r k R φ = (Go.Gx.rcS rc φ H' ∧ Go.Gx.runOps P r k R (Go.Gx.putd d v φ) H'))) ∧
  ((∀ {φ : Go.Gx.Frame} {d : Nat} {v : Go.Value}, Go.Gx.putd (Option.some d) v φ = (d, v) :: φ) ∧
  ((∀ {φ : Go.Gx.Frame} {v : Go.Value}, Go.Gx.putd Option.none v φ = φ) ∧
  (∀ {φ : Go.Gx.Frame} {H : Go.Gx.Heap}, Go.Gx.rcS [] φ H = True)))) ∧
  (((∀ {φ : Go.Gx.Frame} {H : Go.Gx.Heap} {x : Option Nat × Go.Gx.AOp × Option (Nat × Bool)} {l : Go.Gx.RC}, Go.Gx.rcS (x :: l) φ H = Go.Gx.rcOk (x :: l) φ H) ∧
  ((∀ {φ : Go.Gx.Frame} {H : Go.Gx.Heap}, Go.Gx.rcOk [] φ H = True) ∧
  (∀ {φ : Go.Gx.Frame} {H : Go.Gx.Heap} {d : Nat} {op : Go.Gx.AOp} {l : Go.Gx.RC}, Go.Gx.rcOk ((Option.some d, op, Option.none) :: l) φ H = (Go.Gx.aval op φ H = Option.some (Go.Gx.Frame.get φ d) ∧ Go.Gx.rcOk l φ H)))) ∧
  ((∀ {φ : Go.Gx.Frame} {H : Go.Gx.Heap} {d : Nat} {op : Go.Gx.AOp} {g : Nat × Bool} {l : Go.Gx.RC}, Go.Gx.rcOk ((Option.some d, op, Option.some g) :: l) φ H = ((Go.Gx.guardW (Go.Gx.Frame.get φ (Prod.fst g)) (Prod.snd g) = Option.some Bool.true → Go.Gx.aval op φ H = Option.some (Go.Gx.Frame.get φ d)) ∧ Go.Gx.rcOk l φ H)) ∧
  ((∀ {φ : Go.Gx.Frame} {H : Go.Gx.Heap} {x : Go.Operand}, Go.Gx.aval (Go.Gx.AOp.ld x) φ H = Go.Gx.aLd (Go.Gx.Frame.ev φ x) H) ∧
  (∀ {φ : Go.Gx.Frame} {H : Go.Gx.Heap} {x : Go.Operand} {n : Nat}, Go.Gx.aval (Go.Gx.AOp.ldn n x) φ H = Go.Gx.aLdn n (Go.Gx.Frame.ev φ x) H))))) ∧
  ((((∀ {φ : Go.Gx.Frame} {H : Go.Gx.Heap} {x y : Go.Operand}, Go.Gx.aval (Go.Gx.AOp.ia x y) φ H = Go.Gx.aIa (Go.Gx.Frame.ev φ x) (Go.Gx.Frame.ev φ y) H) ∧
  (∀ {P : Go.Program} {k : List Go.Gx.AItem} {R : Go.Gx.Post} {φ : Go.Gx.Frame} {H : Go.Gx.Heap} {r : List Go.Gx.AStep} {d : Option Nat} {rc : Go.Gx.RC} {f : Go.FuncId} {a b : Array Go.Value} {l : List Go.Value}, Go.Gx.callvR P (Go.Value.func (Go.Fn.func f) a b) l d rc r k R φ H = Go.Gx.callR P f (Array.toList a ++ l ++ Array.toList b) d rc r k R φ H)) ∧
  ((∀ {P : Go.Program} {k : List Go.Gx.AItem} {R : Go.Gx.Post} {φ : Go.Gx.Frame} {H : Go.Gx.Heap} {a b : Go.Gx.ACode}, Go.Gx.condR P (Go.Value.bool Bool.true) a b k R φ H = Go.Gx.run P a k R φ H) ∧
  ((∀ {P : Go.Program} {k : List Go.Gx.AItem} {R : Go.Gx.Post} {φ : Go.Gx.Frame} {H : Go.Gx.Heap} {a b : Go.Gx.ACode}, Go.Gx.condR P (Go.Value.bool Bool.false) a b k R φ H = Go.Gx.run P b k R φ H) ∧
  (∀ {P : Go.Program} {k : List Go.Gx.AItem} {R : Go.Gx.Post} {φ : Go.Gx.Frame} {H : Go.Gx.Heap} {r : List Go.Gx.AStep} {s : Go.Gx.AStep}, Go.Gx.grdR P (Option.some Bool.true) s r k R φ H = Go.Gx.runOps P (s :: r) k R φ H)))) ∧
  (((∀ {P : Go.Program} {k : List Go.Gx.AItem} {R : Go.Gx.Post} {φ : Go.Gx.Frame} {H : Go.Gx.Heap} {r : List Go.Gx.AStep} {s : Go.Gx.AStep}, Go.Gx.grdR P (Option.some Bool.false) s r k R φ H = (Go.Gx.rcS (Go.Gx.AStep.rc s) φ H ∧ Go.Gx.runOps P r k R (Go.Gx.putd (Go.Gx.AStep.dst s) Go.undef φ) H)) ∧
  ((Go.Gx.guardW (Go.Value.bool Bool.true) Bool.true = Option.some Bool.true) ∧
  (Go.Gx.guardW (Go.Value.bool Bool.true) Bool.false = Option.some Bool.false))) ∧
  ((Go.Gx.guardW (Go.Value.bool Bool.false) Bool.true = Option.some Bool.false) ∧
  ((Go.Gx.guardW (Go.Value.bool Bool.false) Bool.false = Option.some Bool.true) ∧
  (∀ {w : Bool}, Go.Gx.guardW Go.undef w = Option.some Bool.false)))))) ∧
  (((((∀ {P : Go.Program} {k : List Go.Gx.AItem} {R : Go.Gx.Post} {H : Go.Gx.Heap} {a : Go.Gx.ACode}, Go.Gx.keepR P [] a k R H = Go.Gx.run P a k R [] H) ∧
  (∀ {P : Go.Program} {k : List Go.Gx.AItem} {R : Go.Gx.Post} {φ : Go.Gx.Frame} {H : Go.Gx.Heap} {x : Nat × Go.Value} {a : Go.Gx.ACode}, Go.Gx.keepR P (x :: φ) a k R H = Go.Gx.run P a k R (x :: φ) H)) ∧
  ((∀ {H : Go.Gx.Heap} {v : Go.Value} {S : Go.Value → Go.Gx.Heap → Prop}, Go.Gx.endR (Option.some v) S H = S v H) ∧
  ((∀ (φ : Go.Gx.Frame) (s t : Nat) (v : Go.Value), Go.Gx.Frame.get ((s, v) :: φ) t = if s = t then v else Go.Gx.Frame.get φ t) ∧
  (∀ (φ : Go.Gx.Frame) (t : Nat), Go.Gx.Frame.ev φ (Go.Operand.tmp t) = Go.Gx.Frame.get φ t)))) ∧
  (((∀ (φ : Go.Gx.Frame) (v : Go.Value), Go.Gx.Frame.ev φ (Go.Operand.const v) = v) ∧
  ((∀ (φ : Go.Gx.Frame) (f : Go.FuncId), Go.Gx.Frame.ev φ (Go.Operand.func f) = Go.Value.func (Go.Fn.func f) #[] #[]) ∧
  (∀ (i : Nat) (v : Go.Value) (l : List Go.Value), Go.Gx.params i (v :: l) = (i, v) :: Go.Gx.params (i + 1) l))) ∧
  ((∀ (i : Nat), Go.Gx.params i [] = []) ∧
  ((∀ (φ : Go.Gx.Frame) (t : Nat) (l : List Nat), Go.Gx.Frame.keep (t :: l) φ = (t, Go.Gx.Frame.get φ t) :: Go.Gx.Frame.keep l φ) ∧
  (∀ (φ : Go.Gx.Frame), Go.Gx.Frame.keep [] φ = []))))) ∧
  ((((∀ (t : Nat) (l : List Nat) (v : Go.Value) (vs : List Go.Value), List.zip (t :: l) (v :: vs) = (t, v) :: List.zip l vs) ∧
  ((List.zip ([] : List Nat) ([] : List Value) = []) ∧
  (∀ (φ : Go.Gx.Frame) (H : Go.Gx.Heap) (r : Go.Gx.ARes), Go.Gx.ares φ H [r] = Go.Gx.ares1 φ H r))) ∧
  ((∀ (φ : Go.Gx.Frame) (H : Go.Gx.Heap) (r s : Go.Gx.ARes), Go.Gx.ares φ H [r, s] = Go.Gx.pairO (Go.Gx.ares1 φ H r) (Go.Gx.ares1 φ H s)) ∧
  ((∀ (φ : Go.Gx.Frame) (H : Go.Gx.Heap) (r s t : Go.Gx.ARes), Go.Gx.ares φ H [r, s, t] = Go.Gx.tripleO (Go.Gx.ares1 φ H r) (Go.Gx.ares1 φ H s) (Go.Gx.ares1 φ H t)) ∧
  (∀ (φ : Go.Gx.Frame) (H : Go.Gx.Heap) (r s t u : Go.Gx.ARes), Go.Gx.ares φ H [r, s, t, u] = Go.Gx.tupR (Go.Gx.aresL φ H [r, s, t, u]))))) ∧
  (((∀ (φ : Go.Gx.Frame) (H : Go.Gx.Heap) (r s t u v : Go.Gx.ARes), Go.Gx.ares φ H [r, s, t, u, v] = Go.Gx.tupR (Go.Gx.aresL φ H [r, s, t, u, v])) ∧
  ((∀ (φ : Go.Gx.Frame) (H : Go.Gx.Heap) (r : Go.Gx.ARes) (l : List Go.Gx.ARes), Go.Gx.aresL φ H (r :: l) = Go.Gx.consO (Go.Gx.ares1 φ H r) (Go.Gx.aresL φ H l)) ∧
  (∀ (φ : Go.Gx.Frame) (H : Go.Gx.Heap), Go.Gx.aresL φ H [] = Option.some []))) ∧
  ((∀ (v : Go.Value) (vs : List Go.Value), Go.Gx.consO (Option.some v) (Option.some vs) = Option.some (v :: vs)) ∧
  ((∀ (vs : List Go.Value), Go.Gx.tupR (Option.some vs) = Option.some (Go.Value.tuple (List.toArray vs))) ∧
  (∀ {v u w x : Value} {l : List Value}, (Array.mk (v :: u :: w :: x :: l) : Array Value)[3]? = some x))))))) ∧
  ((((((∀ {v u w x y : Value} {l : List Value}, (Array.mk (v :: u :: w :: x :: y :: l) : Array Value)[4]? = some y) ∧
  (∀ (φ : Go.Gx.Frame) (H : Go.Gx.Heap) (t : Nat), Go.Gx.ares1 φ H (Go.Gx.ARes.tmp t) = Option.some (Go.Gx.Frame.get φ t))) ∧
  ((∀ (φ : Go.Gx.Frame) (H : Go.Gx.Heap) (t : Nat), Go.Gx.ares1 φ H (Go.Gx.ARes.cell t) = Go.Gx.aLd (Go.Gx.Frame.get φ t) H) ∧
  ((∀ (φ : Go.Gx.Frame) (H : Go.Gx.Heap) (t n : Nat), Go.Gx.ares1 φ H (Go.Gx.ARes.celln t n) = Go.Gx.aLdn n (Go.Gx.Frame.get φ t) H) ∧
  (∀ (a b : Go.Value), Go.Gx.pairO (Option.some a) (Option.some b) = Option.some (Go.Value.tuple #[a, b]))))) ∧
  (((∀ (a b c : Go.Value), Go.Gx.tripleO (Option.some a) (Option.some b) (Option.some c) = Option.some (Go.Value.tuple #[a, b, c])) ∧
  ((∀ (a b : Go.Value), Go.Gx.aPick (Go.Value.bool Bool.true) a b = Option.some a) ∧
  (∀ (a b : Go.Value), Go.Gx.aPick (Go.Value.bool Bool.false) a b = Option.some b))) ∧
  ((∀ {k : Go.IntKind} {a b : Int}, Go.Gx.abin Go.BinOp.add (Go.Value.int k a) (Go.Value.int k b) = Option.some (Go.Value.int k (Go.IntKind.wrap k (a + b)))) ∧
  ((∀ {k : Go.IntKind} {a b : Int}, Go.Gx.abin Go.BinOp.sub (Go.Value.int k a) (Go.Value.int k b) = Option.some (Go.Value.int k (Go.IntKind.wrap k (a - b)))) ∧
  (∀ {k : Go.IntKind} {a b : Int}, Go.Gx.abin Go.BinOp.mul (Go.Value.int k a) (Go.Value.int k b) = Option.some (Go.Value.int k (Go.IntKind.wrap k (a * b)))))))) ∧
  ((((∀ {k : Go.IntKind} {a b : Int}, b ≠ 0 → Go.Gx.abin Go.BinOp.quo (Go.Value.int k a) (Go.Value.int k b) = Option.some (Go.Value.int k (Go.IntKind.wrap k (Int.tdiv a b)))) ∧
  (∀ {k : Go.IntKind} {a b : Int}, b ≠ 0 → Go.Gx.abin Go.BinOp.rem (Go.Value.int k a) (Go.Value.int k b) = Option.some (Go.Value.int k (Int.tmod a b)))) ∧
  ((∀ {k : Go.IntKind} {a b : Int}, Go.Gx.abin Go.BinOp.eql (Go.Value.int k a) (Go.Value.int k b) = Option.some (Go.Value.bool (Decidable.decide (a = b)))) ∧
  ((∀ {k : Go.IntKind} {a b : Int}, Go.Gx.abin Go.BinOp.neq (Go.Value.int k a) (Go.Value.int k b) = Option.some (Go.Value.bool (Decidable.decide (a ≠ b)))) ∧
  (∀ {k : Go.IntKind} {a b : Int}, Go.Gx.abin Go.BinOp.lss (Go.Value.int k a) (Go.Value.int k b) = Option.some (Go.Value.bool (Decidable.decide (a < b))))))) ∧
  (((∀ {k : Go.IntKind} {a b : Int}, Go.Gx.abin Go.BinOp.leq (Go.Value.int k a) (Go.Value.int k b) = Option.some (Go.Value.bool (Decidable.decide (a ≤ b)))) ∧
  ((∀ {k : Go.IntKind} {a b : Int}, Go.Gx.abin Go.BinOp.gtr (Go.Value.int k a) (Go.Value.int k b) = Option.some (Go.Value.bool (Decidable.decide (b < a)))) ∧
  (∀ {k : Go.IntKind} {a b : Int}, Go.Gx.abin Go.BinOp.geq (Go.Value.int k a) (Go.Value.int k b) = Option.some (Go.Value.bool (Decidable.decide (b ≤ a)))))) ∧
  ((∀ {k k' : Go.IntKind} {a b : Int}, 0 ≤ b → Go.Gx.abin Go.BinOp.shl (Go.Value.int k a) (Go.Value.int k' b) = Option.some (Go.Value.int k (Go.IntKind.wrap k (a * 2 ^ Min.min (Int.toNat b) (Go.IntKind.bits k))))) ∧
  ((∀ {k k' : Go.IntKind} {a b : Int}, 0 ≤ b → Go.Gx.abin Go.BinOp.shr (Go.Value.int k a) (Go.Value.int k' b) = Option.some (Go.Value.int k (Int.fdiv a (2 ^ Min.min (Int.toNat b) (Go.IntKind.bits k))))) ∧
  (∀ {k : Go.IntKind} {a b : Int}, Go.Gx.abin Go.BinOp.and (Go.Value.int k a) (Go.Value.int k b) = Option.some (Go.Value.int k (Go.bits Go.BinOp.and k a b)))))))) ∧
  (((((∀ {k : Go.IntKind} {a b : Int}, Go.Gx.abin Go.BinOp.or (Go.Value.int k a) (Go.Value.int k b) = Option.some (Go.Value.int k (Go.bits Go.BinOp.or k a b))) ∧
  (∀ {k : Go.IntKind} {a b : Int}, Go.Gx.abin Go.BinOp.xor (Go.Value.int k a) (Go.Value.int k b) = Option.some (Go.Value.int k (Go.bits Go.BinOp.xor k a b)))) ∧
  ((∀ {k : Go.FloatKind} {a b : Nat}, Go.Gx.abin Go.BinOp.add (Go.Value.float k a) (Go.Value.float k b) = Option.some (Go.Value.float k (Go.Gx.fbin Go.BinOp.add k a b))) ∧
  ((∀ {k : Go.FloatKind} {a b : Nat}, Go.Gx.abin Go.BinOp.sub (Go.Value.float k a) (Go.Value.float k b) = Option.some (Go.Value.float k (Go.Gx.fbin Go.BinOp.sub k a b))) ∧
  (∀ {k : Go.FloatKind} {a b : Nat}, Go.Gx.abin Go.BinOp.mul (Go.Value.float k a) (Go.Value.float k b) = Option.some (Go.Value.float k (Go.Gx.fbin Go.BinOp.mul k a b)))))) ∧
  (((∀ {k : Go.FloatKind} {a b : Nat}, Go.Gx.abin Go.BinOp.quo (Go.Value.float k a) (Go.Value.float k b) = Option.some (Go.Value.float k (Go.Gx.fbin Go.BinOp.quo k a b))) ∧
  ((∀ {k : Go.FloatKind} {a b : Nat}, Go.Gx.abin Go.BinOp.eql (Go.Value.float k a) (Go.Value.float k b) = Option.some (Go.Value.bool (Go.Gx.fcB Go.BinOp.eql k a b))) ∧
  (∀ {k : Go.FloatKind} {a b : Nat}, Go.Gx.abin Go.BinOp.neq (Go.Value.float k a) (Go.Value.float k b) = Option.some (Go.Value.bool (Go.Gx.fcB Go.BinOp.neq k a b))))) ∧
  ((∀ {k : Go.FloatKind} {a b : Nat}, Go.Gx.abin Go.BinOp.lss (Go.Value.float k a) (Go.Value.float k b) = Option.some (Go.Value.bool (Go.Gx.fcB Go.BinOp.lss k a b))) ∧
  ((∀ {k : Go.FloatKind} {a b : Nat}, Go.Gx.abin Go.BinOp.leq (Go.Value.float k a) (Go.Value.float k b) = Option.some (Go.Value.bool (Go.Gx.fcB Go.BinOp.leq k a b))) ∧
  (∀ {k : Go.FloatKind} {a b : Nat}, Go.Gx.abin Go.BinOp.gtr (Go.Value.float k a) (Go.Value.float k b) = Option.some (Go.Value.bool (Go.Gx.fcB Go.BinOp.gtr k a b))))))) ∧
  ((((∀ {k : Go.FloatKind} {a b : Nat}, Go.Gx.abin Go.BinOp.geq (Go.Value.float k a) (Go.Value.float k b) = Option.some (Go.Value.bool (Go.Gx.fcB Go.BinOp.geq k a b))) ∧
  ((∀ {k : Go.FloatKind} {a b c d : Nat}, Go.Gx.abin Go.BinOp.eql (Go.Value.complex k a b) (Go.Value.complex k c d) = Option.some (Go.Value.bool (Go.Gx.feq k a c && Go.Gx.feq k b d))) ∧
  (∀ {k : Go.FloatKind} {a b c d : Nat}, Go.Gx.abin Go.BinOp.neq (Go.Value.complex k a b) (Go.Value.complex k c d) = Option.some (Go.Value.bool !(Go.Gx.feq k a c && Go.Gx.feq k b d))))) ∧
  ((∀ {k : Go.FloatKind} {a b c d : Nat}, Go.Gx.abin Go.BinOp.add (Go.Value.complex k a b) (Go.Value.complex k c d) = Option.some (Go.Value.complex k (Go.Gx.fbin Go.BinOp.add k a c) (Go.Gx.fbin Go.BinOp.add k b d))) ∧
  ((∀ {b : Bool}, Go.Gx.aun Go.UnOp.not (Go.Value.bool b) = Option.some (Go.Value.bool !b)) ∧
  (∀ {k : Go.IntKind} {a : Int}, Go.Gx.aun Go.UnOp.neg (Go.Value.int k a) = Option.some (Go.Value.int k (Go.IntKind.wrap k (0 - a))))))) ∧
  (((∀ {k : Go.FloatKind} {a : Nat}, Go.Gx.aun Go.UnOp.neg (Go.Value.float k a) = Option.some (Go.Value.float k (Go.Gx.fneg k a))) ∧
  ((∀ {k k' : Go.IntKind} {n : Int}, Go.Gx.acv (Go.Gx.CD.i k) (Go.Value.int k' n) = Option.some (Go.Value.int k (Go.IntKind.wrap k n))) ∧
  (∀ {k : Go.FloatKind} {k' : Go.IntKind} {n : Int}, Go.Gx.acv (Go.Gx.CD.f k) (Go.Value.int k' n) = Option.some (Go.Value.float k (Go.Gx.i2f k n))))) ∧
  ((∀ {x : Nat}, Go.Gx.acv (Go.Gx.CD.f Go.FloatKind.f64) (Go.Value.float Go.FloatKind.f32 x) = Option.some (Go.Value.float Go.FloatKind.f64 (Go.Gx.f64 x))) ∧
  ((∀ {k : Go.FloatKind} {x : Nat}, Go.Gx.acv (Go.Gx.CD.f k) (Go.Value.float k x) = Option.some (Go.Value.float k x)) ∧
  (∀ {a b : Bool}, Go.Gx.aBeq Bool.false (Go.Value.bool a) (Go.Value.bool b) = Option.some (Go.Value.bool (a == b)))))))))) ∧
  (((((((∀ {a b : Bool}, Go.Gx.aBeq Bool.true (Go.Value.bool a) (Go.Value.bool b) = Option.some (Go.Value.bool !a == b)) ∧
  (∀ {k k' : Go.IntKind} {a b : Int}, Go.Gx.aMnx Bool.true (Go.Value.int k a) (Go.Value.int k' b) = Option.some (Go.Value.int k (Max.max a b)))) ∧
  ((∀ {k k' : Go.IntKind} {a b : Int}, Go.Gx.aMnx Bool.false (Go.Value.int k a) (Go.Value.int k' b) = Option.some (Go.Value.int k (Min.min a b))) ∧
  ((∀ {k : Go.FloatKind} {a b : Nat}, Go.Gx.aRe (Go.Value.complex k a b) = Option.some (Go.Value.float k a)) ∧
  (∀ {k : Go.FloatKind} {a b : Nat}, Go.Gx.aIm (Go.Value.complex k a b) = Option.some (Go.Value.float k b))))) ∧
  (((∀ {k : Go.FloatKind} {a b : Nat}, Go.Gx.aCx (Go.Value.float k a) (Go.Value.float k b) = Option.some (Go.Value.complex k a b)) ∧
  ((∀ {h o t off : Nat}, Go.Gx.aFa off (Go.Value.pointer (Option.some (Go.Addr.mk h o (Option.some t)))) = Option.some (Go.Value.pointer (Option.some (Go.Addr.mk h (o + off) (Option.some t))))) ∧
  (∀ {cs : Array Go.Value} {off : Nat}, Go.Gx.aFld off (Go.Value.agg cs) = cs[off]?))) ∧
  ((∀ {cs : Array Go.Value} {i : Nat}, Go.Gx.aExt (Go.Value.tuple cs) i = cs[i]?) ∧
  ((∀ {a : Go.Addr}, Go.Gx.aNc (Go.Value.pointer (Option.some a)) = Option.some (Go.Value.pointer (Option.some a))) ∧
  (∀ {f : Go.FuncId} {a b : Array Go.Value}, Go.Gx.aNc (Go.Value.func (Go.Fn.func f) a b) = Option.some (Go.Value.func (Go.Fn.func f) a b)))))) ∧
  ((((∀ {p : Option Go.Addr} {n t : Nat}, Go.Gx.aLen (Go.Value.slice p n t) = Option.some (Go.Value.int Go.IntKind.i64 ↑n)) ∧
  (∀ {v : Value} {l : List Value}, (Array.mk (v :: l) : Array Value)[0]? = some v)) ∧
  ((∀ {v u : Value} {l : List Value}, (Array.mk (v :: u :: l) : Array Value)[1]? = some u) ∧
  ((∀ {v u w : Value} {l : List Value}, (Array.mk (v :: u :: w :: l) : Array Value)[2]? = some w) ∧
  (∀ {h o n t : Nat} {k : Go.IntKind} {j : Int} {H : Go.Gx.Heap}, Go.Gx.aIa (Go.Value.slice (Option.some (Go.Addr.mk h o Option.none)) n t) (Go.Value.int k j) H = Go.Gx.iaB (Go.Gx.Heap.blk H h) h o n t j)))) ∧
  (((∀ {own : Bool} {ty : Go.TypeId} {cs : List Go.Value} {h o n t : Nat} {j : Int}, List.length cs = o + t → 0 ≤ j → j < ↑n → Go.Gx.iaB (Option.some (Go.Gx.Blk.mk own ty cs)) h o n t j = Option.some (Go.Value.pointer (Option.some (Go.Addr.mk h (o + Int.toNat j) (Option.some (o + t)))))) ∧
  ((∀ (n : Int), -9223372036854775808 ≤ n → n ≤ 9223372036854775807 → Go.IntKind.wrap Go.IntKind.i64 n = n) ∧
  (∀ (H : Go.Gx.Heap) (b : Go.Gx.Blk), Go.Gx.Heap.n (Go.Gx.Heap.new H b) = Go.Gx.Heap.n H + 1))) ∧
  ((∀ (H : Go.Gx.Heap) (h : Nat) (b : Go.Gx.Blk), Go.Gx.Heap.n (Go.Gx.Heap.put H h b) = Go.Gx.Heap.n H) ∧
  ((∀ (H : Go.Gx.Heap) (b : Go.Gx.Blk) (i : Nat), i = Go.Gx.Heap.n H → Go.Gx.Heap.blk (Go.Gx.Heap.new H b) i = Option.some b) ∧
  (∀ (H : Go.Gx.Heap) (b : Go.Gx.Blk) (i : Nat), i < Go.Gx.Heap.n H → Go.Gx.Heap.blk (Go.Gx.Heap.new H b) i = Go.Gx.Heap.blk H i)))))) ∧
  (((((∀ (tm : List Go.Value) (ps : List (Nat × Nat × Go.Value)), Go.Gx.aBld tm ps = Go.Gx.mkAgg (Go.Gx.afill tm ps)) ∧
  (∀ (cs : List Go.Value), Go.Gx.mkAgg (Option.some cs) = Option.some (Go.Value.agg (List.toArray cs)))) ∧
  ((∀ (cs : List Go.Value), Go.Gx.afill cs [] = Option.some cs) ∧
  ((∀ {cs : List Go.Value} {off : Nat} {v : Go.Value} {r : List (Nat × Nat × Go.Value)}, Go.Gx.one v = Bool.true → off < List.length cs → Go.Gx.afill cs ((off, 1, v) :: r) = Go.Gx.afill (List.set cs off v) r) ∧
  (∀ {ty : Go.TypeId} {v : Go.Value} {H : Go.Gx.Heap}, Go.Gx.one v = Bool.true → Go.Gx.eBox ty v H = Option.some (Go.Value.pointer (Option.some (Go.Addr.mk (Go.Gx.Heap.n H) 0 (Option.some 1))), Go.Gx.Heap.new H (Go.Gx.Blk.mk Bool.true ty [v])))))) ∧
  (((∀ (H : Go.Gx.Heap) (h : Nat) (b : Go.Gx.Blk), Go.Gx.Heap.blk (Go.Gx.Heap.put H h b) h = Option.some b) ∧
  ((∀ (H : Go.Gx.Heap) (h i : Nat) (b : Go.Gx.Blk), i ≠ h → Go.Gx.Heap.blk (Go.Gx.Heap.put H h b) i = Go.Gx.Heap.blk H i) ∧
  (∀ (H : Go.Gx.Heap) (h : Nat) (b c : Go.Gx.Blk), Go.Gx.Heap.put (Go.Gx.Heap.put H h b) h c = Go.Gx.Heap.put H h c))) ∧
  ((∀ (H : Go.Gx.Heap) (b c : Go.Gx.Blk), Go.Gx.Heap.put (Go.Gx.Heap.new H b) (Go.Gx.Heap.n H) c = Go.Gx.Heap.new H c) ∧
  ((∀ {h o t : Nat} {H : Go.Gx.Heap}, Go.Gx.aLd (Go.Value.pointer (Option.some (Go.Addr.mk h o (Option.some t)))) H = Go.Gx.ldB (Go.Gx.Heap.blk H h) o t) ∧
  (∀ {own : Bool} {ty : Go.TypeId} {cs : List Go.Value} {o t : Nat}, List.length cs = t → Go.Gx.ldB (Option.some (Go.Gx.Blk.mk own ty cs)) o t = cs[o]?))))) ∧
  ((((∀ {n h o t : Nat} {H : Go.Gx.Heap}, Go.Gx.aLdn n (Go.Value.pointer (Option.some (Go.Addr.mk h o (Option.some t)))) H = Go.Gx.ldnB (Go.Gx.Heap.blk H h) n o t) ∧
  ((∀ {own : Bool} {ty : Go.TypeId} {cs : List Go.Value} {n o t : Nat}, List.length cs = t → o + n ≤ t → Go.Gx.ldnB (Option.some (Go.Gx.Blk.mk own ty cs)) n o t = Option.some (Go.Value.agg (List.toArray (List.take n (List.drop o cs))))) ∧
  (∀ {h o t : Nat} {v : Go.Value} {H : Go.Gx.Heap}, Go.Gx.eSt (Go.Value.pointer (Option.some (Go.Addr.mk h o (Option.some t)))) v H = Go.Gx.stB (Go.Gx.Heap.blk H h) h o t v H))) ∧
  ((∀ {ty : Go.TypeId} {cs : List Go.Value} {h o t : Nat} {v : Go.Value} {H : Go.Gx.Heap}, List.length cs = t → o < t → Go.Gx.one v = Bool.true → Go.Gx.stB (Option.some (Go.Gx.Blk.mk Bool.true ty cs)) h o t v H = Option.some (Go.undef, Go.Gx.Heap.put H h (Go.Gx.Blk.mk Bool.true ty (List.set cs o v)))) ∧
  ((∀ {n h o t : Nat} {v : Go.Value} {H : Go.Gx.Heap}, Go.Gx.eStn n (Go.Value.pointer (Option.some (Go.Addr.mk h o (Option.some t)))) v H = Go.Gx.stnB (Go.Gx.Heap.blk H h) n h o t v H) ∧
  (∀ {ty : Go.TypeId} {cs ds : List Go.Value} {h t n : Nat} {H : Go.Gx.Heap}, List.length cs = t → t = n → List.length ds = n → List.all ds Go.Gx.one = Bool.true → Go.Gx.stnB (Option.some (Go.Gx.Blk.mk Bool.true ty cs)) n h 0 t (Go.Value.agg (Array.mk ds)) H = Option.some (Go.undef, Go.Gx.Heap.put H h (Go.Gx.Blk.mk Bool.true ty ds)))))) ∧
  (((∀ {ty : Go.TypeId} {ds : List Go.Value} {H : Go.Gx.Heap}, List.length ds ≤ 4096 → List.all ds Go.Gx.one = Bool.true → Go.Gx.eBox ty (Go.Value.agg (Array.mk ds)) H = Option.some (Go.Value.pointer (Option.some (Go.Addr.mk (Go.Gx.Heap.n H) 0 (Option.some (List.length ds)))), Go.Gx.Heap.new H (Go.Gx.Blk.mk Bool.true ty ds))) ∧
  ((∀ {ty : Go.TypeId} {k : Go.IntKind} {n : Int} {H : Go.Gx.Heap}, Go.Gx.eBox ty (Go.Value.int k n) H = Option.some (Go.Value.pointer (Option.some (Go.Addr.mk (Go.Gx.Heap.n H) 0 (Option.some 1))), Go.Gx.Heap.new H (Go.Gx.Blk.mk Bool.true ty [Go.Value.int k n]))) ∧
  (∀ {ty : Go.TypeId} {k : Go.FloatKind} {n : Nat} {H : Go.Gx.Heap}, Go.Gx.eBox ty (Go.Value.float k n) H = Option.some (Go.Value.pointer (Option.some (Go.Addr.mk (Go.Gx.Heap.n H) 0 (Option.some 1))), Go.Gx.Heap.new H (Go.Gx.Blk.mk Bool.true ty [Go.Value.float k n]))))) ∧
  ((∀ {ty : Go.TypeId} {n : Bool} {H : Go.Gx.Heap}, Go.Gx.eBox ty (Go.Value.bool n) H = Option.some (Go.Value.pointer (Option.some (Go.Addr.mk (Go.Gx.Heap.n H) 0 (Option.some 1))), Go.Gx.Heap.new H (Go.Gx.Blk.mk Bool.true ty [Go.Value.bool n]))) ∧
  ((∀ {ty : Go.TypeId} {p : Option Go.Addr} {n t : Nat} {H : Go.Gx.Heap}, Go.Gx.eBox ty (Go.Value.slice p n t) H = Option.some (Go.Value.pointer (Option.some (Go.Addr.mk (Go.Gx.Heap.n H) 0 (Option.some 1))), Go.Gx.Heap.new H (Go.Gx.Blk.mk Bool.true ty [Go.Value.slice p n t]))) ∧
  (∀ {ety : Go.TypeId} {bytes h n t : Nat} {news : List Go.Value} {H : Go.Gx.Heap}, Go.Gx.eApp ety bytes (Go.Value.slice (Option.some (Go.Addr.mk h 0 Option.none)) n t) (Option.some news) H = Go.Gx.appB (Go.Gx.Heap.blk H h) ety bytes h n t news H))))))) ∧
  ((((((∀ {ety : Go.TypeId} {bytes h n t : Nat} {cs news : List Go.Value} {H : Go.Gx.Heap}, n = List.length cs → t = n → (n + List.length news) * bytes ≤ 140737488355328 → Go.Gx.appB (Option.some (Go.Gx.Blk.mk Bool.true ety cs)) ety bytes h n t news H = Option.some (Go.Value.slice (Option.some (Go.Addr.mk h 0 Option.none)) (n + List.length news) (n + List.length news), Go.Gx.Heap.put H h (Go.Gx.Blk.mk Bool.true ety (cs ++ news)))) ∧
  (∀ {ety : Go.TypeId} {bytes n t : Nat} {news : List Go.Value} {H : Go.Gx.Heap}, news ≠ [] → List.length news * bytes ≤ 140737488355328 → Go.Gx.eApp ety bytes (Go.Value.slice Option.none n t) (Option.some news) H = Option.some (Go.Value.slice (Option.some (Go.Addr.mk (Go.Gx.Heap.n H) 0 Option.none)) (List.length news) (List.length news), Go.Gx.Heap.new H (Go.Gx.Blk.mk Bool.true ety news)))) ∧
  ((∀ {H : Go.Gx.Heap} {h n : Nat} {own : Bool} {ty : Go.TypeId} {cs : List Go.Value}, Go.Gx.Heap.blk H h = Option.some (Go.Gx.Blk.mk own ty cs) → List.length cs = n → Go.Gx.readSl H (Go.Value.slice (Option.some (Go.Addr.mk h 0 Option.none)) n n) = Option.some cs) ∧
  ((∀ {H : Go.Gx.Heap} {ty : Go.TypeId} {v : Go.Value}, Go.Gx.readSl (Go.Gx.Heap.new H (Go.Gx.Blk.mk Bool.true ty [v])) (Go.Value.slice (Option.some (Go.Addr.mk (Go.Gx.Heap.n H) 0 Option.none)) 1 1) = Option.some [v]) ∧
  (∀ {ety : Go.TypeId} {z : Go.Value} {H : Go.Gx.Heap}, Go.Gx.eBsl ety 0 z [] H = Option.some (Go.Value.slice (Option.some (Go.Addr.mk (Go.Gx.Heap.n H) 0 Option.none)) 0 0, Go.Gx.Heap.new H (Go.Gx.Blk.mk Bool.true ety [])))))) ∧
  (((∀ {ety : Go.TypeId} {z v : Go.Value} {H : Go.Gx.Heap}, Go.Gx.one v = Bool.true → Go.Gx.eBsl ety 1 z [(0, v)] H = Option.some (Go.Value.slice (Option.some (Go.Addr.mk (Go.Gx.Heap.n H) 0 Option.none)) 1 1, Go.Gx.Heap.new H (Go.Gx.Blk.mk Bool.true ety [v]))) ∧
  ((∀ {ety : Go.TypeId} {z v u : Go.Value} {H : Go.Gx.Heap}, Go.Gx.one v = Bool.true → Go.Gx.one u = Bool.true → Go.Gx.eBsl ety 2 z [(0, v), (1, u)] H = Option.some (Go.Value.slice (Option.some (Go.Addr.mk (Go.Gx.Heap.n H) 0 Option.none)) 2 2, Go.Gx.Heap.new H (Go.Gx.Blk.mk Bool.true ety [v, u]))) ∧
  (∀ {k : Go.IntKind} {n : Int}, Go.Gx.one (Go.Value.int k n) = Bool.true))) ∧
  ((∀ {k : Go.FloatKind} {n : Nat}, Go.Gx.one (Go.Value.float k n) = Bool.true) ∧
  ((∀ {n : Bool}, Go.Gx.one (Go.Value.bool n) = Bool.true) ∧
  (∀ {p : Option Go.Addr} {n t : Nat}, Go.Gx.one (Go.Value.slice p n t) = Bool.true))))) ∧
  ((((∀ (p : Prop), (True ∧ p) = p) ∧
  (∀ (p : Prop), (p ∧ True) = p)) ∧
  ((∀ (p : Prop), (p ∧ p) = p) ∧
  ((∀ {p : Prop} [inst : Decidable p], p → Decidable.decide p = Bool.true) ∧
  (∀ {p : Prop} [inst : Decidable p], ¬p → Decidable.decide p = Bool.false)))) ∧
  (((∀ (h : Decidable True), Decidable.decide True = Bool.true) ∧
  ((∀ (h : Decidable False), Decidable.decide False = Bool.false) ∧
  ((!Bool.true) = Bool.false))) ∧
  (((!Bool.false) = Bool.true) ∧
  ((∀ (n : Nat), 0 + n = n) ∧
  (∀ (n : Nat), Int.toNat ↑n = n)))))) ∧
  (((((∀ {n m : Nat}, ((n : Int) < (m : Int)) ↔ n < m) ∧
  (∀ {m n : Nat}, ((m : Int) ≤ (n : Int)) ↔ m ≤ n)) ∧
  ((∀ (f : Nat → Go.Value) (a : Nat) (l : List Nat), List.map f (a :: l) = f a :: List.map f l) ∧
  ((∀ (f : Nat → Go.Value), List.map f [] = []) ∧
  (∀ (f : Go.Operand → Go.Value) (a : Go.Operand) (l : List Go.Operand), List.map f (a :: l) = f a :: List.map f l)))) ∧
  (((∀ (f : Go.Operand → Go.Value), List.map f [] = []) ∧
  ((∀ (f : Nat × Go.Operand → Nat × Go.Value) (a : Nat × Go.Operand) (l : List (Nat × Go.Operand)), List.map f (a :: l) = f a :: List.map f l) ∧
  (∀ (f : Nat × Go.Operand → Nat × Go.Value), List.map f [] = []))) ∧
  ((∀ (f : Nat × Nat × Go.Operand → Nat × Nat × Go.Value) (a : Nat × Nat × Go.Operand) (l : List (Nat × Nat × Go.Operand)), List.map f (a :: l) = f a :: List.map f l) ∧
  ((∀ (f : Nat × Nat × Go.Operand → Nat × Nat × Go.Value), List.map f [] = []) ∧
  (∀ (a b : Go.Value) (l : List Go.Value), List.set (a :: l) 0 b = b :: l))))) ∧
  ((((∀ (a b : Go.Value) (l : List Go.Value) (n : Nat), List.set (a :: l) (n + 1) b = a :: List.set l n b) ∧
  ((∀ (a : Go.Value) (l : List Go.Value) (n : Nat), List.take (n + 1) (a :: l) = a :: List.take n l) ∧
  (∀ (l : List Go.Value), List.take 0 l = []))) ∧
  ((∀ (a : Go.Value) (l : List Go.Value) (n : Nat), List.drop (n + 1) (a :: l) = List.drop n l) ∧
  ((∀ (l : List Go.Value), List.drop 0 l = l) ∧
  (∀ (a : Go.Value) (l : List Go.Value), (a :: l)[0]? = Option.some a)))) ∧
  (((∀ (a : Go.Value) (l : List Go.Value) (n : Nat), (a :: l)[n + 1]? = l[n]?) ∧
  ((∀ (a : Bool), (a == a) = Bool.true) ∧
  (∀ (a : Go.Value) (l : List Go.Value), List.length (a :: l) = List.length l + 1))) ∧
  ((([] : List Value).length = 0) ∧
  ((∀ {b : Nat}, Go.Gx.aSqrt (Go.Value.float Go.FloatKind.f64 b) = Option.some (Go.Value.float Go.FloatKind.f64 (Go.Gx.sqrtF b))) ∧
  (∀ {n b : Nat}, Go.Gx.aInt n (Go.Value.float Go.FloatKind.f64 b) = Option.some (Go.Value.float Go.FloatKind.f64 (Go.Gx.intF n b))))))))))) :=
  ⟨⟨⟨⟨⟨⟨⟨@optR_some, @effR_some⟩, ⟨@putd_some, ⟨@putd_none, @rcS_nil⟩⟩⟩, ⟨⟨@rcS_cons, ⟨@rcOk_nil, @rcOk_cons⟩⟩, ⟨@rcOk_consG, ⟨@av_ld, @av_ldn⟩⟩⟩⟩, ⟨⟨⟨@av_ia, @callvR_func⟩, ⟨@condR_true, ⟨@condR_false, @grdR_true⟩⟩⟩, ⟨⟨@grdR_false, ⟨@guardW_true, @guardW_true'⟩⟩, ⟨@guardW_false, ⟨@guardW_false', @guardW_undef⟩⟩⟩⟩⟩, ⟨⟨⟨⟨@keepR_nil, @keepR_cons⟩, ⟨@endR_some, ⟨@get_cons, @ev_tmp⟩⟩⟩, ⟨⟨@ev_const, ⟨@ev_func, @params_cons⟩⟩, ⟨@params_nil, ⟨@keep_cons, @keep_nil⟩⟩⟩⟩, ⟨⟨⟨@zip_cons, ⟨@zip_nil, @ares_1⟩⟩, ⟨@ares_2, ⟨@ares_3, @ares_4⟩⟩⟩, ⟨⟨@ares_5, ⟨@aresL_cons, @aresL_nil⟩⟩, ⟨@consO_some, ⟨@tupR_some, @arr_3⟩⟩⟩⟩⟩⟩, ⟨⟨⟨⟨⟨@arr_4, @ares1_tmp⟩, ⟨@ares1_cell, ⟨@ares1_celln, @pairO_some⟩⟩⟩, ⟨⟨@tripleO_some, ⟨@aPick_true, @aPick_false⟩⟩, ⟨@abin_add, ⟨@abin_sub, @abin_mul⟩⟩⟩⟩, ⟨⟨⟨@abin_quo, @abin_rem⟩, ⟨@abin_eql, ⟨@abin_neq, @abin_lss⟩⟩⟩, ⟨⟨@abin_leq, ⟨@abin_gtr, @abin_geq⟩⟩, ⟨@abin_shl, ⟨@abin_shr, @abin_and⟩⟩⟩⟩⟩, ⟨⟨⟨⟨@abin_or, @abin_xor⟩, ⟨@abin_fadd, ⟨@abin_fsub, @abin_fmul⟩⟩⟩, ⟨⟨@abin_fquo, ⟨@abin_feql, @abin_fneq⟩⟩, ⟨@abin_flss, ⟨@abin_fleq, @abin_fgtr⟩⟩⟩⟩, ⟨⟨⟨@abin_fgeq, ⟨@abin_ceql, @abin_cneq⟩⟩, ⟨@abin_cadd, ⟨@aun_not, @aun_neg⟩⟩⟩, ⟨⟨@aun_fneg, ⟨@acv_ii, @acv_if⟩⟩, ⟨@acv_wide, ⟨@acv_same, @aBeq_t⟩⟩⟩⟩⟩⟩⟩, ⟨⟨⟨⟨⟨⟨@aBeq_f, @aMnx_max⟩, ⟨@aMnx_min, ⟨@aRe_c, @aIm_c⟩⟩⟩, ⟨⟨@aCx_f, ⟨@aFa_p, @aFld_agg⟩⟩, ⟨@aExt_t, ⟨@aNc_p, @aNc_f⟩⟩⟩⟩, ⟨⟨⟨@aLen_s, @arr_0⟩, ⟨@arr_1, ⟨@arr_2, @aIa_s⟩⟩⟩, ⟨⟨@iaB_at, ⟨@w64, @new_n⟩⟩, ⟨@put_n, ⟨@new_at, @new_old⟩⟩⟩⟩⟩, ⟨⟨⟨⟨@aBld_def, @mkAgg_some⟩, ⟨@afill_nil, ⟨@afill_one, @eBox_v⟩⟩⟩, ⟨⟨@hput_self, ⟨@hput_other, @hput_put⟩⟩, ⟨@new_put, ⟨@aLd_p, @ldB_at⟩⟩⟩⟩, ⟨⟨⟨@aLdn_p, ⟨@ldnB_at, @eSt_p⟩⟩, ⟨@stB_at, ⟨@eStn_p, @stnB_all⟩⟩⟩, ⟨⟨@eBox_agg, ⟨@eBox_int, @eBox_float⟩⟩, ⟨@eBox_bool, ⟨@eBox_slice, @eApp_own⟩⟩⟩⟩⟩⟩, ⟨⟨⟨⟨⟨@appB_at, @eApp_nil⟩, ⟨@readSl_own, ⟨@rd1_new, @eBsl_0⟩⟩⟩, ⟨⟨@eBsl_1, ⟨@eBsl_2, @one_int⟩⟩, ⟨@one_float, ⟨@one_bool, @one_slice⟩⟩⟩⟩, ⟨⟨⟨@true_and, @and_true⟩, ⟨@and_self, ⟨@decide_eq_true, @decide_eq_false⟩⟩⟩, ⟨⟨@decide_true, ⟨@decide_false, @Bool.not_true⟩⟩, ⟨@Bool.not_false, ⟨@Nat.zero_add, @Int.toNat_natCast⟩⟩⟩⟩⟩, ⟨⟨⟨⟨@Int.ofNat_lt, @Int.ofNat_le⟩, ⟨@mConsN, ⟨@mNilN, @mConsO⟩⟩⟩, ⟨⟨@mNilO, ⟨@mConsP, @mNilP⟩⟩, ⟨@mConsQ, ⟨@mNilQ, @sZero⟩⟩⟩⟩, ⟨⟨⟨@sSucc, ⟨@tSucc, @tZero⟩⟩, ⟨@dSucc, ⟨@dZero, @gZero⟩⟩⟩, ⟨⟨@gSucc, ⟨@bSelf, @lCons⟩⟩, ⟨@lNil, ⟨@aSqrt_f, @aInt_f⟩⟩⟩⟩⟩⟩⟩⟩
theorem gxD : (((((∀ (H : Go.Gx.Heap) (b : Go.Gx.Blk), Go.Gx.Heap.n (Go.Gx.Heap.new H b) = Go.Gx.Heap.n H + 1) ∧
  (∀ (H : Go.Gx.Heap) (h : Nat) (b : Go.Gx.Blk), Go.Gx.Heap.n (Go.Gx.Heap.put H h b) = Go.Gx.Heap.n H)) ∧
  ((∀ {k : Go.IntKind} {n : Int}, Go.Gx.one (Go.Value.int k n) = Bool.true) ∧
  ((∀ {k : Go.FloatKind} {n : Nat}, Go.Gx.one (Go.Value.float k n) = Bool.true) ∧
  (∀ {n : Bool}, Go.Gx.one (Go.Value.bool n) = Bool.true)))) ∧
  (((∀ {p : Option Go.Addr} {n t : Nat}, Go.Gx.one (Go.Value.slice p n t) = Bool.true) ∧
  ((∀ (f : Nat → Go.Value) (l : List Nat), List.length (List.map f l) = List.length l) ∧
  (∀ (f : Int → Go.Value) (l : List Int), List.length (List.map f l) = List.length l))) ∧
  ((∀ (f : Bool → Go.Value) (l : List Bool), List.length (List.map f l) = List.length l) ∧
  ((∀ (a : Go.Value) (l : List Go.Value), List.length (a :: l) = List.length l + 1) ∧
  (([] : List Value).length = 0))))) ∧
  ((((∀ (a : Nat) (l : List Nat), List.length (a :: l) = List.length l + 1) ∧
  ((([] : List Nat).length = 0) ∧
  (∀ (a b : List Go.Value), List.length (a ++ b) = List.length a + List.length b))) ∧
  ((∀ (a b : List Nat), List.length (a ++ b) = List.length a + List.length b) ∧
  ((∀ (l : List Go.Value) (i : Nat) (a : Go.Value), List.length (List.set l i a) = List.length l) ∧
  (∀ (n : Nat) (a : Go.Value), List.length (List.replicate n a) = n)))) ∧
  (((∀ (n a : Nat), List.length (List.replicate n a) = n) ∧
  ((∀ (n : Nat), List.length (List.range n) = n) ∧
  (∀ (f : Go.Value → Bool) (a : Go.Value) (l : List Go.Value), List.all (a :: l) f = (f a && List.all l f)))) ∧
  ((∀ (f : Go.Value → Bool), List.all [] f = Bool.true) ∧
  ((∀ (b : Bool), (b && b) = b) ∧
  (∀ (n : Nat), 0 + n = n)))))) :=
  ⟨⟨⟨⟨@new_n, @put_n⟩, ⟨@one_int, ⟨@one_float, @one_bool⟩⟩⟩, ⟨⟨@one_slice, ⟨@lMapN, @lMapI⟩⟩, ⟨@lMapB, ⟨@lCons, @lNil⟩⟩⟩⟩, ⟨⟨⟨@lConsN, ⟨@lNilN, @lApp⟩⟩, ⟨@lAppN, ⟨@lSet, @lRepl⟩⟩⟩, ⟨⟨@lReplN, ⟨@lRange, @allCons⟩⟩, ⟨@allNil, ⟨@Bool.and_self, @Nat.zero_add⟩⟩⟩⟩⟩
end Go.Gx
