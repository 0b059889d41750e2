/- Part 28: an interpreter over plain data for this code, with the proof that it says what the model does, and the contracts of the functions. No condition. -/
import Derived.Test.YtfkmodcjddfeiaaDoorDi27
set_option linter.unusedVariables false
set_option linter.unusedSimpArgs false
namespace Go.Di
open Proofs
theorem links7_fn : FnOk PRG (MF 9) 135 (body Tryd.f135) [.cell 0 84] := by refine ⟨Tryd.f135,?_,?_,?_,?_,?_⟩ <;> kernel_rfl
theorem chg7_fn : FnOk PRG (MF 86) 69 (body Tryd.f69) [.tmp 0] := by refine ⟨Tryd.f69,?_,?_,?_,?_,?_⟩ <;> kernel_rfl
theorem sm7N_fn : FnOk PRG (MF 87) 68 (body Tryd.f68) [.tmp 2] := by refine ⟨Tryd.f68,?_,?_,?_,?_,?_⟩ <;> kernel_rfl
theorem sm7Y_fn : FnOk PRG (MF 87) 68 (body Tryd.f68) [.tmp 2] := by refine ⟨Tryd.f68,?_,?_,?_,?_,?_⟩ <;> kernel_rfl
theorem tspa_fn : FnOk PRG (MF 154) 26 (body Tryd.f26) [.tmp 2] := by refine ⟨Tryd.f26,?_,?_,?_,?_,?_⟩ <;> kernel_rfl
theorem tspaZ_fn : FnOk PRG (MF 154) 26 (body Tryd.f26) [.tmp 2] := by refine ⟨Tryd.f26,?_,?_,?_,?_,?_⟩ <;> kernel_rfl
theorem tspaY_fn : FnOk PRG (MF 154) 26 (body Tryd.f26) [.tmp 2] := by refine ⟨Tryd.f26,?_,?_,?_,?_,?_⟩ <;> kernel_rfl
theorem tspaN_fn : FnOk PRG (MF 154) 26 (body Tryd.f26) [.tmp 2] := by refine ⟨Tryd.f26,?_,?_,?_,?_,?_⟩ <;> kernel_rfl
def sm7N_S0 (x : FBook)  : List (Key × Val) :=
 [(.tmp 1,.d (D.ptr 1 0)),
  (.tmp 3,.d (D.bool false)),
  (.tmp 4,.d (D.int .i64 0)),
  (.box 1,.bx (some (Box.mk false (cellsOf (fbookD x)))))]
def sm7N_K0 : List Key := [.tmp 1,.tmp 3,.tmp 4,.box 1]
def sm7Y_S0 (x : FBook) (i : Nat) : List (Key × Val) :=
 [(.tmp 1,.d (D.ptr 1 0)),
  (.tmp 3,.d (.bool true)),
  (.tmp 4,.d (.int .i64 i)),
  (.box 1,.bx (some (Box.mk false (cellsOf (fbookD x)))))]
def sm7Y_K0 : List Key := [.tmp 1,.tmp 3,.tmp 4,.box 1]
def tspaZ_S0 (x : FBook)  (d fi se : Int) : List (Key × Val) :=
 [(.tmp 1,.d (D.ptr 1 0)),
  (.tmp 5,.d (D.sl false E.work [])),
  (.tmp 6,.d (D.int .i64 0)),
  (.tmp 7,.d (.int .i64 fi)),
  (.tmp 8,.d (.int .i64 se)),
  (.tmp 9,.d (.int .i64 d)),
  (.box 1,.bx (some (Box.mk false (cellsOf (fbookD x)))))]
def tspaZ_K0 : List Key := [.tmp 1,.tmp 5,.tmp 6,.tmp 7,.tmp 8,.tmp 9,.box 1]
def tspaY_S0 (x : FBook) (w : Work) (pl : List Work) (d fi se : Int) : List (Key × Val) :=
 [(.tmp 1,.d (D.ptr 1 0)),
  (.tmp 5,.d (D.sl false E.work (w :: pl))),
  (.tmp 6,.d (D.int .i64 0)),
  (.tmp 7,.d (.int .i64 fi)),
  (.tmp 8,.d (.int .i64 se)),
  (.tmp 9,.d (.int .i64 d)),
  (.box 1,.bx (some (Box.mk false (cellsOf (fbookD x)))))]
def tspaY_K0 : List Key := [.tmp 1,.tmp 5,.tmp 6,.tmp 7,.tmp 8,.tmp 9,.box 1]
def tspaN_S0 (x : FBook)  (d fi se : Int) : List (Key × Val) :=
 [(.tmp 1,.d (D.ptr 1 0)),
  (.tmp 5,.d (D.sl false E.work [])),
  (.tmp 6,.d (D.int .i64 4)),
  (.tmp 7,.d (.int .i64 fi)),
  (.tmp 8,.d (.int .i64 se)),
  (.tmp 9,.d (.int .i64 d)),
  (.box 1,.bx (some (Box.mk false (cellsOf (fbookD x)))))]
def tspaN_K0 : List Key := [.tmp 1,.tmp 5,.tmp 6,.tmp 7,.tmp 8,.tmp 9,.box 1]
theorem sm7N_0_end (x : FBook) :
  runK (MF 87) [] [] [] (Code.at [1,1,0,1,0,0] (body Tryd.f68)) (sm7N_S0 x ) sm7N_K0 =
   some ([],Ex.exit 0,sm7N_S0 x) := by kernel_rfl
theorem sm7Y_0_on (x : FBook) (i : Nat) :
  runK (MF 87) [(65,true)] [(75,.bool true),(84,.bool true)] [] (Code.at [1,1,0,1,0,0] (body Tryd.f68)) (sm7Y_S0 x i) sm7Y_K0 =
   some ([decide ((i : Int) < (List.length (Book.secs (FBook.chain x)) : Int)) = true,(0 : Int) ≤ (i : Int) ∧ (i : Int) < (List.length (Book.secs (FBook.chain x)) : Int),0 + 0 + 2 ≤ 4,CF 117 [D.agg [D.int .i64 (Span.lo (Sec.t (List.getD (Book.secs (FBook.chain x)) (i) (E.z E.sec)))),D.int .i64 (Span.hi (Sec.t (List.getD (Book.secs (FBook.chain x)) (i) (E.z E.sec))))],D.int .i64 0,D.int .i64 200] (D.bool true),(0 : Int) ≤ (i : Int) ∧ (i : Int) < (List.length (Book.secs (FBook.chain x)) : Int),0 + 2 + 2 ≤ 4,CF 117 [D.agg [D.int .i64 (Span.lo (Sec.w (List.getD (Book.secs (FBook.chain x)) (i) (E.z E.sec)))),D.int .i64 (Span.hi (Sec.w (List.getD (Book.secs (FBook.chain x)) (i) (E.z E.sec))))],D.int .i64 0,D.int .i64 3] (D.bool true),inI64 ((i : Int) + (1 : Int))],Ex.normal,sm7Y_S0 x (i + 1)) := by kernel_rfl
theorem sm7Y_0_end (x : FBook) (i : Nat) :
  runK (MF 87) [(65,false)] [] [] (Code.at [1,1,0,1,0,0] (body Tryd.f68)) (sm7Y_S0 x i) sm7Y_K0 =
   some ([decide ((i : Int) < (List.length (Book.secs (FBook.chain x)) : Int)) = false],Ex.exit 0,sm7Y_S0 x i) := by kernel_rfl
theorem tspaZ_0_some (x : FBook) (d fi se : Int) (l : List Int) :
  runK (MF 154) [(54,true),(76,true)] [(61,.tup [.sl true .int l,.int .i64 0]),(71,.bool true)] [] (Code.at [1,1,1,1,1,1,1,0,1,0,0] (body Tryd.f26)) (tspaZ_S0 x d fi se) tspaZ_K0 =
   some ([decide (d ≥ (0 : Int)) = true,CF 40 [bookD x.chain,D.int .i64 d] (D.tup [D.sl true E.int l,D.int .i64 0]),CF 52 [D.sl false E.int l,D.int .i64 ((List.length (FBook.feet x) : Int))] (D.bool true),decide ((List.length l : Int) > (0 : Int)) = true,(0 : Int) ≤ (0 : Int) ∧ (0 : Int) < (List.length l : Int),0 + 1 ≤ 1,inI64 (d - (1 : Int))],Ex.normal,tspaZ_S0 x (d - 1) d (l.getD 0 0)) := by kernel_rfl
theorem tspaZ_0_none (x : FBook) (d fi se : Int) (l : List Int) :
  runK (MF 154) [(54,true),(76,false)] [(61,.tup [.sl true .int l,.int .i64 0]),(71,.bool true)] [] (Code.at [1,1,1,1,1,1,1,0,1,0,0] (body Tryd.f26)) (tspaZ_S0 x d fi se) tspaZ_K0 =
   some ([decide (d ≥ (0 : Int)) = true,CF 40 [bookD x.chain,D.int .i64 d] (D.tup [D.sl true E.int l,D.int .i64 0]),CF 52 [D.sl false E.int l,D.int .i64 ((List.length (FBook.feet x) : Int))] (D.bool true),decide ((List.length l : Int) > (0 : Int)) = false,inI64 (d - (1 : Int))],Ex.normal,tspaZ_S0 x (d - 1) fi se) := by kernel_rfl
theorem tspaZ_0_end (x : FBook) (d fi se : Int) :
  runK (MF 154) [(54,false)] [] [] (Code.at [1,1,1,1,1,1,1,0,1,0,0] (body Tryd.f26)) (tspaZ_S0 x d fi se) tspaZ_K0 =
   some ([decide (d ≥ (0 : Int)) = false],Ex.exit 0,tspaZ_S0 x d fi se) := by kernel_rfl
theorem tspaY_0_some (x : FBook) (w : Work) (pl : List Work) (d fi se : Int) (l : List Int) :
  runK (MF 154) [(54,true),(76,true)] [(61,.tup [.sl true .int l,.int .i64 0]),(71,.bool true)] [] (Code.at [1,1,1,1,1,1,1,0,1,0,0] (body Tryd.f26)) (tspaY_S0 x w pl d fi se) tspaY_K0 =
   some ([decide (d ≥ (0 : Int)) = true,CF 40 [bookD x.chain,D.int .i64 d] (D.tup [D.sl true E.int l,D.int .i64 0]),CF 52 [D.sl false E.int l,D.int .i64 ((List.length (FBook.feet x) : Int))] (D.bool true),decide ((List.length l : Int) > (0 : Int)) = true,(0 : Int) ≤ (0 : Int) ∧ (0 : Int) < (List.length l : Int),0 + 1 ≤ 1,inI64 (d - (1 : Int))],Ex.normal,tspaY_S0 x w pl (d - 1) d (l.getD 0 0)) := by kernel_rfl
theorem tspaY_0_none (x : FBook) (w : Work) (pl : List Work) (d fi se : Int) (l : List Int) :
  runK (MF 154) [(54,true),(76,false)] [(61,.tup [.sl true .int l,.int .i64 0]),(71,.bool true)] [] (Code.at [1,1,1,1,1,1,1,0,1,0,0] (body Tryd.f26)) (tspaY_S0 x w pl d fi se) tspaY_K0 =
   some ([decide (d ≥ (0 : Int)) = true,CF 40 [bookD x.chain,D.int .i64 d] (D.tup [D.sl true E.int l,D.int .i64 0]),CF 52 [D.sl false E.int l,D.int .i64 ((List.length (FBook.feet x) : Int))] (D.bool true),decide ((List.length l : Int) > (0 : Int)) = false,inI64 (d - (1 : Int))],Ex.normal,tspaY_S0 x w pl (d - 1) fi se) := by kernel_rfl
theorem tspaY_0_end (x : FBook) (w : Work) (pl : List Work) (d fi se : Int) :
  runK (MF 154) [(54,false)] [] [] (Code.at [1,1,1,1,1,1,1,0,1,0,0] (body Tryd.f26)) (tspaY_S0 x w pl d fi se) tspaY_K0 =
   some ([decide (d ≥ (0 : Int)) = false],Ex.exit 0,tspaY_S0 x w pl d fi se) := by kernel_rfl
theorem tspaN_0_some (x : FBook) (d fi se : Int) (l : List Int) :
  runK (MF 154) [(54,true),(76,true)] [(61,.tup [.sl true .int l,.int .i64 0]),(71,.bool true)] [] (Code.at [1,1,1,1,1,1,1,0,1,0,0] (body Tryd.f26)) (tspaN_S0 x d fi se) tspaN_K0 =
   some ([decide (d ≥ (0 : Int)) = true,CF 40 [bookD x.chain,D.int .i64 d] (D.tup [D.sl true E.int l,D.int .i64 0]),CF 52 [D.sl false E.int l,D.int .i64 ((List.length (FBook.feet x) : Int))] (D.bool true),decide ((List.length l : Int) > (0 : Int)) = true,(0 : Int) ≤ (0 : Int) ∧ (0 : Int) < (List.length l : Int),0 + 1 ≤ 1,inI64 (d - (1 : Int))],Ex.normal,tspaN_S0 x (d - 1) d (l.getD 0 0)) := by kernel_rfl
theorem tspaN_0_none (x : FBook) (d fi se : Int) (l : List Int) :
  runK (MF 154) [(54,true),(76,false)] [(61,.tup [.sl true .int l,.int .i64 0]),(71,.bool true)] [] (Code.at [1,1,1,1,1,1,1,0,1,0,0] (body Tryd.f26)) (tspaN_S0 x d fi se) tspaN_K0 =
   some ([decide (d ≥ (0 : Int)) = true,CF 40 [bookD x.chain,D.int .i64 d] (D.tup [D.sl true E.int l,D.int .i64 0]),CF 52 [D.sl false E.int l,D.int .i64 ((List.length (FBook.feet x) : Int))] (D.bool true),decide ((List.length l : Int) > (0 : Int)) = false,inI64 (d - (1 : Int))],Ex.normal,tspaN_S0 x (d - 1) fi se) := by kernel_rfl
theorem tspaN_0_end (x : FBook) (d fi se : Int) :
  runK (MF 154) [(54,false)] [] [] (Code.at [1,1,1,1,1,1,1,0,1,0,0] (body Tryd.f26)) (tspaN_S0 x d fi se) tspaN_K0 =
   some ([decide (d ≥ (0 : Int)) = false],Ex.exit 0,tspaN_S0 x d fi se) := by kernel_rfl
theorem links7_all  :
  callF (MF 9) [] [(1,spD ⟨20,21⟩),(2,spD ⟨2,2⟩)] [] (body Tryd.f135) [.cell 0 84] [] =
   some ([CF 61 [D.int .i64 20,D.int .i64 21] (D.agg [D.int .i64 (Span.lo (Span.mk (20 : Int) (21 : Int))),D.int .i64 (Span.hi (Span.mk (20 : Int) (21 : Int)))]),CF 49 [D.int .i64 2] (D.agg [D.int .i64 (Span.lo (Span.mk (2 : Int) (2 : Int))),D.int .i64 (Span.hi (Span.mk (2 : Int) (2 : Int)))])],D.agg [D.sl true E.sec [Sec.mk (Span.mk (Span.lo (Span.mk (20 : Int) (21 : Int))) (Span.hi (Span.mk (20 : Int) (21 : Int)))) (Span.mk (Span.lo (Span.mk (2 : Int) (2 : Int))) (Span.hi (Span.mk (2 : Int) (2 : Int))))],D.nil,D.nil,D.int .i64 11,D.int .i64 6,D.sl true E.int [(4 : Int)],D.int .i64 20,D.sl true E.int [(3 : Int)],D.int .i64 4,D.int .i64 0]) := by kernel_rfl
theorem chg7_all  :
  callF (MF 86) [] [(12,fbookD links7),(13,.tup [.sl false .work [⟨3,0⟩],.int .i64 0]),(17,fbookD links7),(19,.tup [.int .i64 5,.int .i64 0]),(23,fbookD links7),(25,.tup [.int .i64 14,.int .i64 0]),(29,fbookD links7),(31,.tup [.sl true .int ([0] : List Int),.int .i64 0]),(35,fbookD links7),(36,.tup [.int .i64 4,.int .i64 0]),(80,.bool true)] [] (body Tryd.f69) [.tmp 0] [] =
   some ([CF 135 [] (fbookD links7),CF 77 [fbookD links7] (D.tup [D.sl false E.work [Work.mk (3 : Int) (0 : Int)],D.int .i64 0]),CF 135 [] (fbookD links7),CF 43 [bookD links7.chain,D.int .i64 0] (D.tup [D.int .i64 5,D.int .i64 0]),CF 135 [] (fbookD links7),CF 81 [fbookD links7,D.sl false E.work [Work.mk (3 : Int) (0 : Int)],D.int .i64 0,D.int .i64 6] (D.tup [D.int .i64 14,D.int .i64 0]),CF 135 [] (fbookD links7),CF 40 [bookD links7.chain,D.int .i64 5] (D.tup [D.sl true E.int [(0 : Int)],D.int .i64 0]),CF 135 [] (fbookD links7),CF 89 [fbookD links7] (D.tup [D.int .i64 4,D.int .i64 0]),(0 : Int) ≤ (0 : Int) ∧ (0 : Int) < (Nat.cast : Nat → Int) 1,0 + 2 ≤ 2,CF 55 [D.sl false E.int [(0 : Int)],D.sl false E.int [(0 : Int)]] (D.bool true)],D.bool true) := by kernel_rfl
theorem sm7N_all (x : FBook) :
  callF (MF 87) [] [(6,.int .i64 70)] [(0,(sm7N_K0,(.normal,sm7N_S0 x)))] (body Tryd.f68) [.tmp 2] [fbookD x] =
   some ([CF 98 [fbookD x] (D.int .i64 70),LF 87 (Code.at [1,1,0,1] (body Tryd.f68)) [(.tmp 1,.d (D.ptr 1 0)),(.tmp 3,.d (D.bool false)),(.tmp 4,.d (D.int .i64 0)),(.box 1,.bx (some (Box.mk false (cellsOf (fbookD x)))))] Ex.normal (sm7N_S0 x)],D.bool false) := by kernel_rfl
theorem sm7Y_all (x : FBook) (i : Nat) :
  callF (MF 87) [(31,true),(44,true),(51,true)] [(6,.int .i64 0),(11,.int .i64 0),(19,.bool true),(35,.bool true)] [(0,(sm7Y_K0,(.normal,sm7Y_S0 x i)))] (body Tryd.f68) [.tmp 2] [fbookD x] =
   some ([CF 98 [fbookD x] (D.int .i64 0),CF 64 [bookD x.chain] (D.int .i64 0),CF 50 [D.int .i64 ((List.length (Book.secs (FBook.chain x)) : Int)),D.int .i64 1,D.int .i64 4] (D.bool true),((List.length (FBook.feet x) : Int) == (List.length (Book.secs (FBook.chain x)) : Int)) = true,((List.length (FBook.feet x) : Int) == (List.length (Book.secs (FBook.chain x)) : Int)) = true,((List.length (FBook.feet x) : Int) == (List.length (Book.secs (FBook.chain x)) : Int)) = true,((List.length (FBook.feet x) : Int) == (List.length (Book.secs (FBook.chain x)) : Int)) = true,CF 50 [D.int .i64 (Book.days (FBook.chain x)),D.int .i64 1,D.int .i64 30] (D.bool true),((List.length (FBook.feet x) : Int) == (List.length (Book.secs (FBook.chain x)) : Int)) = true,decide ((List.length (Book.turns (FBook.chain x)) : Int) ≤ (4 : Int)) = true,decide ((List.length (Book.turns (FBook.chain x)) : Int) ≤ (4 : Int)) = true,decide ((List.length (Book.turns (FBook.chain x)) : Int) ≤ (4 : Int)) = true,decide ((List.length (Book.turns (FBook.chain x)) : Int) ≤ (4 : Int)) = true,decide ((List.length (Book.turns (FBook.chain x)) : Int) ≤ (4 : Int)) = true,decide ((List.length (Book.turns (FBook.chain x)) : Int) ≤ (4 : Int)) = true,decide ((List.length (Book.svs (FBook.chain x)) : Int) ≤ (8 : Int)) = true,decide ((List.length (Book.svs (FBook.chain x)) : Int) ≤ (8 : Int)) = true,decide ((List.length (Book.svs (FBook.chain x)) : Int) ≤ (8 : Int)) = true,decide ((List.length (Book.svs (FBook.chain x)) : Int) ≤ (8 : Int)) = true,decide ((List.length (Book.svs (FBook.chain x)) : Int) ≤ (8 : Int)) = true,LF 87 (Code.at [1,1,0,1] (body Tryd.f68)) [(.tmp 1,.d (D.ptr 1 0)),(.tmp 3,.d (D.bool (decide ((List.length (FBook.opn x) : Int) ≤ (4 : Int))))),(.tmp 4,.d (D.int .i64 0)),(.box 1,.bx (some (Box.mk false (cellsOf (fbookD x)))))] Ex.normal (sm7Y_S0 x i)],D.bool true) := by kernel_rfl
theorem tspa_bad (x : FBook) :
  callF (MF 154) [] [(20,.bool false),(22,.bool true)] [] (body Tryd.f26) [.tmp 2] [fbookD x] =
   some ([CF 68 [fbookD x] (D.bool false),CF 69 [] (D.bool true)],D.bool true) := by kernel_rfl
theorem tspa_false (x : FBook) :
  callF (MF 154) [] [(20,.bool true),(26,.tup [.bool false,.int .i64 0]),(31,.tup [.sl false .work [],.int .i64 72]),(48,.bool true)] [] (body Tryd.f26) [.tmp 2] [fbookD x] =
   some ([CF 68 [fbookD x] (D.bool true),CF 37 [bookD x.chain] (D.tup [D.bool false,D.int .i64 0]),CF 77 [fbookD x] (D.tup [D.sl false E.work [],D.int .i64 72]),CF 69 [] (D.bool true)],D.bool true) := by kernel_rfl
theorem tspaZ_spare (x : FBook) (d fi se : Int) :
  callF (MF 154) [(82,true)] [(20,.bool true),(26,.tup [.bool true,.int .i64 0]),(31,.tup [.sl false .work [],.int .i64 0]),(85,.tup [.int .i64 0,.int .i64 0]),(90,.tup [.int .i64 0,.int .i64 4]),(113,.bool true)] [(0,(tspaZ_K0,(.normal,tspaZ_S0 x d fi se)))] (body Tryd.f26) [.tmp 2] [fbookD x] =
   some ([CF 68 [fbookD x] (D.bool true),CF 37 [bookD x.chain] (D.tup [D.bool true,D.int .i64 0]),CF 77 [fbookD x] (D.tup [D.sl false E.work [],D.int .i64 0]),LF 154 (Code.at [1,1,1,1,1,1,1,0,1] (body Tryd.f26)) [(.tmp 1,.d (D.ptr 1 0)),(.tmp 5,.d (D.sl false E.work [])),(.tmp 6,.d (D.int .i64 0)),(.tmp 7,.d (D.int .i64 (-(1 : Int)))),(.tmp 8,.d (D.int .i64 0)),(.tmp 9,.d (D.int .i64 (Book.days (FBook.chain x)))),(.box 1,.bx (some (Box.mk false (cellsOf (fbookD x)))))] Ex.normal (tspaZ_S0 x d fi se),decide (fi < (0 : Int)) = true,CF 89 [fbookD x] (D.tup [D.int .i64 0,D.int .i64 0]),CF 92 [fbookD x] (D.tup [D.int .i64 0,D.int .i64 4]),CF 69 [] (D.bool true)],D.bool true) := by kernel_rfl
theorem tspaY_need (x : FBook) (w : Work) (pl : List Work) (d fi se fd fs : Int) :
  callF (MF 154) [(82,false),(146,true),(151,true),(128,true)] [(20,.bool true),(26,.tup [.bool true,.int .i64 0]),(31,.tup [.sl false .work (w :: pl),.int .i64 0]),(117,.tup [.int .i64 fd,.int .i64 fs,.int .i64 0]),(152,.bool true)] [(0,(tspaY_K0,(.normal,tspaY_S0 x w pl d fi se)))] (body Tryd.f26) [.tmp 2] [fbookD x] =
   some ([CF 68 [fbookD x] (D.bool true),CF 37 [bookD x.chain] (D.tup [D.bool true,D.int .i64 0]),CF 77 [fbookD x] (D.tup [D.sl false E.work (w :: pl),D.int .i64 0]),LF 154 (Code.at [1,1,1,1,1,1,1,0,1] (body Tryd.f26)) [(.tmp 1,.d (D.ptr 1 0)),(.tmp 5,.d (D.sl false E.work (w :: pl))),(.tmp 6,.d (D.int .i64 0)),(.tmp 7,.d (D.int .i64 (-(1 : Int)))),(.tmp 8,.d (D.int .i64 0)),(.tmp 9,.d (D.int .i64 (Book.days (FBook.chain x)))),(.box 1,.bx (some (Box.mk false (cellsOf (fbookD x)))))] Ex.normal (tspaY_S0 x w pl d fi se),decide (fi < (0 : Int)) = false,CF 83 [fbookD x,D.sl false E.work []] (D.tup [D.int .i64 fd,D.int .i64 fs,D.int .i64 0]),decide ((List.length (w :: pl) : Int) > (0 : Int)) = true,decide ((List.length (w :: pl) : Int) > (0 : Int)) = true,decide ((List.length (w :: pl) : Int) > (0 : Int)) = true,decide ((List.length (w :: pl) : Int) > (0 : Int)) = true,decide ((List.length (w :: pl) : Int) > (0 : Int)) = true,(fd == fi) = true,(fd == fi) = true,(fd == fi) = true,(fd == fi) = true,(fs == se) = true,CF 69 [] (D.bool true),(fs == se) = true],D.bool true) := by kernel_rfl
theorem tspaN_need (x : FBook) (d fi se fd fs : Int) :
  callF (MF 154) [(82,false),(146,true),(151,true)] [(20,.bool true),(26,.tup [.bool true,.int .i64 0]),(31,.tup [.sl false .work [],.int .i64 4]),(117,.tup [.int .i64 fd,.int .i64 fs,.int .i64 0]),(152,.bool true)] [(0,(tspaN_K0,(.normal,tspaN_S0 x d fi se)))] (body Tryd.f26) [.tmp 2] [fbookD x] =
   some ([CF 68 [fbookD x] (D.bool true),CF 37 [bookD x.chain] (D.tup [D.bool true,D.int .i64 0]),CF 77 [fbookD x] (D.tup [D.sl false E.work [],D.int .i64 4]),LF 154 (Code.at [1,1,1,1,1,1,1,0,1] (body Tryd.f26)) [(.tmp 1,.d (D.ptr 1 0)),(.tmp 5,.d (D.sl false E.work [])),(.tmp 6,.d (D.int .i64 4)),(.tmp 7,.d (D.int .i64 (-(1 : Int)))),(.tmp 8,.d (D.int .i64 0)),(.tmp 9,.d (D.int .i64 (Book.days (FBook.chain x)))),(.box 1,.bx (some (Box.mk false (cellsOf (fbookD x)))))] Ex.normal (tspaN_S0 x d fi se),decide (fi < (0 : Int)) = false,CF 83 [fbookD x,D.sl false E.work []] (D.tup [D.int .i64 fd,D.int .i64 fs,D.int .i64 0]),(fd == fi) = true,(fd == fi) = true,(fd == fi) = true,(fd == fi) = true,(fs == se) = true,CF 69 [] (D.bool true),(fs == se) = true],D.bool true) := by kernel_rfl
end Go.Di

namespace Go.Di
open Proofs
end Go.Di

namespace Go.Di
open Proofs
theorem isDay_t {b : Book} {d : Int} (h : 0 ≤ d ∧ d ≤ b.days) : isDayF b d = true := by unfold isDayF; rw [within_iff]; exact h
section
variable {x : FBook} (hV : FValid x) (hc : canF x.chain = true)
include hV hc
end
end Go.Di

namespace Go.Di
open Proofs
/-! ### The example -/
theorem cells_nil7 {R : Foot} {w : World} {v : Value} {e : E} (h : RelC R w .nil v) : RelC R w (.sl false e []) v := by
 have h1 : v = .slice none 0 0 := h
 rw [h1]
 exact sl_nil _ _ _ _ _
theorem links7_con : CF 135 [] (fbookD links7) := by
 have h := (contract_of_path (GF 9) links7_fn links7_all ⟨(rangeB_con 20 21).up,(point_con 2).up,trivial⟩).toWeak
 refine h.toRes fun R w v hv => ?_
 obtain ⟨cs,rfl,hv⟩ := hv
 refine ⟨cs,rfl,?_⟩
 obtain ⟨u0,l,e0,h0,hv⟩ := all2_cons hv
 obtain ⟨u1,l,rfl,h1,hv⟩ := all2_cons hv
 obtain ⟨u2,l,rfl,h2,hv⟩ := all2_cons hv
 rw [e0]
 exact ⟨h0,cells_nil7 h1,cells_nil7 h2,hv⟩
theorem small_links7 : FSmall links7 := ⟨⟨by simp [links7],by simp [links7],by simp [links7]⟩,by simp [links7],by simp [links7]⟩
theorem l7_th : knowTh links7 = [[20,18,16,14,12,10,8]] := by kernel_rfl
theorem l7_wr : knowWr links7 = [2] := by kernel_rfl
theorem l7_err : ferrF links7 true = 0 := by kernel_rfl
theorem l7_best : bestF links7 (knowTh links7) (knowWr links7) = ([⟨3,0⟩],true) := by rw [l7_th,l7_wr]; kernel_rfl
theorem l7_plan : fPlanF links7 = ([⟨3,0⟩],0) := by unfold fPlanF; rw [if_pos l7_err,l7_best]
theorem l7_thin : thinAF links7.chain 0 = (5,0) := by kernel_rfl
theorem l7_least : fLeastF links7 [⟨3,0⟩] 0 6 = (14,0) := by kernel_rfl
theorem l7_cut : cutAF links7.chain 5 = ([0],0) := by kernel_rfl
theorem l7_stock0 : stockF links7 (knowTh links7) (knowWr links7) = 4 := by rw [l7_th,l7_wr]; kernel_rfl
theorem l7_stock : fStockF links7 = (4,0) := by unfold fStockF; rw [if_pos l7_err,l7_stock0]; rfl
theorem chg7_con : CF 69 [] (.bool true) := by
 have c1 := fPlan_con small_links7
 rw [l7_plan] at c1
 have c2 := (thinA_con small_links7.chain 0).up
 rw [l7_thin] at c2
 have c3 := fLeast_con small_links7 (plan := [⟨3,0⟩]) (by decide) 0 6
 rw [l7_least] at c3
 have c4 := (cutA_con small_links7.chain 5).up
 rw [l7_cut] at c4
 have c5 := fStock_con small_links7
 rw [l7_stock] at c5
 have c6 := (alike_con [0] [0] (by decide)).up
 exact contract_of_path (GF 86) chg7_fn chg7_all (by repeat (first | exact trivial | refine ⟨by first | exact links7_con | exact c1 | exact c2 | exact c3 | exact c4 | exact c5 | exact c6 | decide | (constructor <;> decide),?_⟩))
/-! ### small07 -/
theorem small7_con {x : FBook} (hs : FSmall x) : CF 68 [fbookD x] (.bool (fvalidF x)) := by
 have hch := fcheck_val hs
 cases hv : fvalidF x with
 | false =>
  rw [hv,if_neg (by decide)] at hch
  have hloop : LF 87 (Code.at [1,1,0,1] (body Tryd.f68)) (sm7N_S0 x) .normal (sm7N_S0 x) :=
   LF.each (id := 0) (c := Code.at [1,1,0,1,0,0] (body Tryd.f68)) (by kernel_rfl) 0 (fun _ => sm7N_S0 x) (fun i hi => by omega) ⟨_,_,_,_,_,_,_,sm7N_0_end x,trivial,.inl ⟨rfl,rfl⟩,rfl⟩
  exact contract_of_path (GF 87) sm7N_fn (sm7N_all x) ⟨hch,hloop,trivial⟩
 | true =>
  rw [hv,if_pos rfl] at hch
  have hV := fvalid_iff.1 hv
  have hC := hV.chain
  have hn := hC.secs
  have hd := hC.days
  have hf := hV.feet
  have hloop : LF 87 (Code.at [1,1,0,1] (body Tryd.f68)) (sm7Y_S0 x 0) .normal (sm7Y_S0 x x.chain.secs.length) := by
   refine LF.each (id := 0) (c := Code.at [1,1,0,1,0,0] (body Tryd.f68)) (by kernel_rfl) x.chain.secs.length (fun i => sm7Y_S0 x i) (fun i hi => ?_) ⟨_,_,_,_,_,_,_,sm7Y_0_end x _,⟨lt_false,trivial⟩,.inl ⟨rfl,rfl⟩,rfl⟩
   obtain ⟨q1,q2⟩ := hC.sec (x.chain.secs.getD i sec0) (getD_mem _ _ _ (by omega))
   have hv1 : CF 117 [spD (x.chain.secs.getD i sec0).t,.int .i64 0,.int .i64 200] (.bool true) := by
    have := (validB_con (x.chain.secs.getD i sec0).t 0 200).up
    rwa [show validSF (x.chain.secs.getD i sec0).t 0 200 = true from by unfold validSF; rw [decide_eq_true (by omega),decide_eq_true (by omega),decide_eq_true (by omega)]; rfl] at this
   have hv2 : CF 117 [spD (x.chain.secs.getD i sec0).w,.int .i64 0,.int .i64 3] (.bool true) := by
    have := (validB_con (x.chain.secs.getD i sec0).w 0 3).up
    rwa [show validSF (x.chain.secs.getD i sec0).w 0 3 = true from by unfold validSF; rw [decide_eq_true (by omega),decide_eq_true (by omega),decide_eq_true (by omega)]; rfl] at this
   exact ⟨_,_,_,_,_,_,sm7Y_0_on x i,⟨lt_true hi,⟨by omega,by omega⟩,by omega,hv1,⟨by omega,by omega⟩,by omega,hv2,i64_of (by omega) (by omega),trivial⟩,rfl⟩
  have hc0 : CF 64 [bookD x.chain] (.int .i64 0) := by
   have := (check_small hs.chain).up
   rwa [show checkF x.chain = 0 from by have h := check_zero (b := x.chain); rw [valid_iff.2 hC] at h; simpa using h] at this
  have h1 := inside_t (n := (x.chain.secs.length : Int)) (lo := 1) (hi := 4) (by omega)
  have h2 := inside_t (n := x.chain.days) (lo := 1) (hi := 30) (by omega)
  have h6 : ((x.feet.length : Int) == (x.chain.secs.length : Int)) = true := by rw [hf]; simp
  have h7 : decide ((x.chain.turns.length : Int) ≤ 4) = true := decide_eq_true (by have := hC.turns; omega)
  have h8 : decide ((x.opn.length : Int) ≤ 4) = true := decide_eq_true (by have := hV.opnl; omega)
  have h9 : decide ((x.chain.svs.length : Int) ≤ 8) = true := decide_eq_true (by have := hC.svs; omega)
  have hall := sm7Y_all x x.chain.secs.length
  rw [h8] at hall
  exact contract_of_path (GF 87) sm7Y_fn hall (by
   repeat (first | exact trivial | refine ⟨by first | exact rfl | exact hch | exact hc0 | exact h1 | exact h2 | exact h6 | exact h7 | exact h8 | exact h9 | exact hloop | omega,?_⟩))
/-! ### thin07 -/
/-! ### turning07 -/
/-! ### TopTurned -/
end Go.Di

namespace Go.Di
open Proofs
theorem climbs_of {l : List Int} {m : Int} (hp : l.Pairwise (· < ·)) (hin : ∀ z ∈ l,0 ≤ z ∧ z < m) : climbsF l m = true := by
 refine List.all_eq_true.2 fun i hi => ?_
 rw [List.mem_range] at hi
 have h1 := hin _ (mem_getD 0 hi)
 unfold climbAt insideF
 simp only [Bool.and_eq_true,decide_eq_true_eq,Bool.not_eq_true',Bool.and_eq_false_iff,decide_eq_false_iff_not]
 refine ⟨by omega,?_⟩
 by_cases h0 : i > 0
 ·exact .inr (by have := pair_getD hp (i := i - 1) (j := i) (by omega) hi; omega)
 ·exact .inl h0
theorem cutU_con {x : FBook} (hV : FValid x) (hs : FSmall x) (hc : canF x.chain = true) {d : Nat} (hd : (d : Int) ≤ x.chain.days) :
  CF 40 [bookD x.chain,.int .i64 (d : Int)] (.tup [.sl true .int (cutL x d),.int .i64 0]) ∧ CF 52 [.sl false .int (cutL x d),.int .i64 (x.feet.length : Int)] (.bool true) := by
 have hfe := hV.feet
 have hsec := hV.chain.secs
 have h := (cutA_con hs.chain (d : Int)).up
 unfold cutAF at h
 rw [isDay_t (by omega),err_zero hV.chain hc,if_pos rfl] at h
 have e : cutGo x.chain (truthsF x.chain []) d x.chain.secs.length = cutL x d := by unfold cutL; rw [hfe]
 rw [e] at h
 obtain ⟨p1,p2⟩ := cutLo_pair x.chain (truthsF x.chain []) d x.feet.length
 have hl := cutGo_len x.chain (truthsF x.chain []) d x.feet.length
 have hc2 := (climbs_con (cutL x d) (x.feet.length : Int) (by unfold cutL; omega) (by omega)).up
 rw [climbs_of (l := cutL x d) p1 p2] at hc2
 exact ⟨h,hc2⟩
theorem tspa_loopZ {x : FBook} (hV : FValid x) (hs : FSmall x) (hc : canF x.chain = true) :
  LF 154 (Code.at [1,1,1,1,1,1,1,0,1] (body Tryd.f26)) (tspaZ_S0 x (x.chain.days - (0 : Nat)) (fcutTo x 0).1 (fcutTo x 0).2) .normal (tspaZ_S0 x (x.chain.days - ((x.chain.days + 1).toNat : Nat)) (fcutTo x (x.chain.days + 1).toNat).1 (fcutTo x (x.chain.days + 1).toNat).2) := by
 have hdd := hV.chain.days
 refine LF.each (id := 0) (c := Code.at [1,1,1,1,1,1,1,0,1,0,0] (body Tryd.f26)) (by kernel_rfl) (x.chain.days + 1).toNat (fun i => tspaZ_S0 x (x.chain.days - (i : Nat)) (fcutTo x i).1 (fcutTo x i).2) (fun i hi => ?_) ⟨_,_,_,_,_,_,_,tspaZ_0_end x _ _ _,⟨decide_eq_false (by omega),trivial⟩,.inl ⟨rfl,rfl⟩,rfl⟩
 obtain ⟨d,hd⟩ : ∃ d : Int,d = x.chain.days - (i : Nat) := ⟨_,rfl⟩
 have ed : ((x.chain.days.toNat - i : Nat) : Int) = d := by omega
 have e : fcutTo x (i + 1) = if (cutL x (x.chain.days.toNat - i)).length > 0 then (((x.chain.days.toNat - i : Nat) : Int),(cutL x (x.chain.days.toNat - i)).getD 0 0) else fcutTo x i := rfl
 have e2 : x.chain.days - ((i + 1 : Nat) : Int) = d - 1 := by omega
 simp only [e,e2,← hd]
 obtain ⟨c1,c2⟩ := cutU_con hV hs hc (d := x.chain.days.toNat - i) (by omega)
 rw [ed] at c1
 rw [ed]
 generalize cutL x (x.chain.days.toNat - i) = l at *
 have hge : decide (d ≥ 0) = true := decide_eq_true (by omega)
 have i1 : inI64 (d - 1) := i64_of (by omega) (by omega)
 by_cases hl : l.length > 0
 ·rw [if_pos hl]
  have d1 : decide ((l.length : Int) > 0) = true := decide_eq_true (by omega)
  exact ⟨_,_,_,_,_,_,tspaZ_0_some x d _ _ l,⟨hge,c1,c2,d1,⟨by omega,by omega⟩,by omega,i1,trivial⟩,rfl⟩
 ·rw [if_neg hl]
  have d1 : decide ((l.length : Int) > 0) = false := decide_eq_false (by omega)
  exact ⟨_,_,_,_,_,_,tspaZ_0_none x d _ _ l,⟨hge,c1,c2,d1,i1,trivial⟩,rfl⟩
theorem tspa_loopY {x : FBook} (hV : FValid x) (hs : FSmall x) (hc : canF x.chain = true) (w : Work) (pl : List Work) :
  LF 154 (Code.at [1,1,1,1,1,1,1,0,1] (body Tryd.f26)) (tspaY_S0 x w pl (x.chain.days - (0 : Nat)) (fcutTo x 0).1 (fcutTo x 0).2) .normal (tspaY_S0 x w pl (x.chain.days - ((x.chain.days + 1).toNat : Nat)) (fcutTo x (x.chain.days + 1).toNat).1 (fcutTo x (x.chain.days + 1).toNat).2) := by
 have hdd := hV.chain.days
 refine LF.each (id := 0) (c := Code.at [1,1,1,1,1,1,1,0,1,0,0] (body Tryd.f26)) (by kernel_rfl) (x.chain.days + 1).toNat (fun i => tspaY_S0 x w pl (x.chain.days - (i : Nat)) (fcutTo x i).1 (fcutTo x i).2) (fun i hi => ?_) ⟨_,_,_,_,_,_,_,tspaY_0_end x w pl _ _ _,⟨decide_eq_false (by omega),trivial⟩,.inl ⟨rfl,rfl⟩,rfl⟩
 obtain ⟨d,hd⟩ : ∃ d : Int,d = x.chain.days - (i : Nat) := ⟨_,rfl⟩
 have ed : ((x.chain.days.toNat - i : Nat) : Int) = d := by omega
 have e : fcutTo x (i + 1) = if (cutL x (x.chain.days.toNat - i)).length > 0 then (((x.chain.days.toNat - i : Nat) : Int),(cutL x (x.chain.days.toNat - i)).getD 0 0) else fcutTo x i := rfl
 have e2 : x.chain.days - ((i + 1 : Nat) : Int) = d - 1 := by omega
 simp only [e,e2,← hd]
 obtain ⟨c1,c2⟩ := cutU_con hV hs hc (d := x.chain.days.toNat - i) (by omega)
 rw [ed] at c1
 rw [ed]
 generalize cutL x (x.chain.days.toNat - i) = l at *
 have hge : decide (d ≥ 0) = true := decide_eq_true (by omega)
 have i1 : inI64 (d - 1) := i64_of (by omega) (by omega)
 by_cases hl : l.length > 0
 ·rw [if_pos hl]
  have d1 : decide ((l.length : Int) > 0) = true := decide_eq_true (by omega)
  exact ⟨_,_,_,_,_,_,tspaY_0_some x w pl d _ _ l,⟨hge,c1,c2,d1,⟨by omega,by omega⟩,by omega,i1,trivial⟩,rfl⟩
 ·rw [if_neg hl]
  have d1 : decide ((l.length : Int) > 0) = false := decide_eq_false (by omega)
  exact ⟨_,_,_,_,_,_,tspaY_0_none x w pl d _ _ l,⟨hge,c1,c2,d1,i1,trivial⟩,rfl⟩
theorem tspa_loopN {x : FBook} (hV : FValid x) (hs : FSmall x) (hc : canF x.chain = true) :
  LF 154 (Code.at [1,1,1,1,1,1,1,0,1] (body Tryd.f26)) (tspaN_S0 x (x.chain.days - (0 : Nat)) (fcutTo x 0).1 (fcutTo x 0).2) .normal (tspaN_S0 x (x.chain.days - ((x.chain.days + 1).toNat : Nat)) (fcutTo x (x.chain.days + 1).toNat).1 (fcutTo x (x.chain.days + 1).toNat).2) := by
 have hdd := hV.chain.days
 refine LF.each (id := 0) (c := Code.at [1,1,1,1,1,1,1,0,1,0,0] (body Tryd.f26)) (by kernel_rfl) (x.chain.days + 1).toNat (fun i => tspaN_S0 x (x.chain.days - (i : Nat)) (fcutTo x i).1 (fcutTo x i).2) (fun i hi => ?_) ⟨_,_,_,_,_,_,_,tspaN_0_end x _ _ _,⟨decide_eq_false (by omega),trivial⟩,.inl ⟨rfl,rfl⟩,rfl⟩
 obtain ⟨d,hd⟩ : ∃ d : Int,d = x.chain.days - (i : Nat) := ⟨_,rfl⟩
 have ed : ((x.chain.days.toNat - i : Nat) : Int) = d := by omega
 have e : fcutTo x (i + 1) = if (cutL x (x.chain.days.toNat - i)).length > 0 then (((x.chain.days.toNat - i : Nat) : Int),(cutL x (x.chain.days.toNat - i)).getD 0 0) else fcutTo x i := rfl
 have e2 : x.chain.days - ((i + 1 : Nat) : Int) = d - 1 := by omega
 simp only [e,e2,← hd]
 obtain ⟨c1,c2⟩ := cutU_con hV hs hc (d := x.chain.days.toNat - i) (by omega)
 rw [ed] at c1
 rw [ed]
 generalize cutL x (x.chain.days.toNat - i) = l at *
 have hge : decide (d ≥ 0) = true := decide_eq_true (by omega)
 have i1 : inI64 (d - 1) := i64_of (by omega) (by omega)
 by_cases hl : l.length > 0
 ·rw [if_pos hl]
  have d1 : decide ((l.length : Int) > 0) = true := decide_eq_true (by omega)
  exact ⟨_,_,_,_,_,_,tspaN_0_some x d _ _ l,⟨hge,c1,c2,d1,⟨by omega,by omega⟩,by omega,i1,trivial⟩,rfl⟩
 ·rw [if_neg hl]
  have d1 : decide ((l.length : Int) > 0) = false := decide_eq_false (by omega)
  exact ⟨_,_,_,_,_,_,tspaN_0_none x d _ _ l,⟨hge,c1,c2,d1,i1,trivial⟩,rfl⟩
theorem tspa_con {x : FBook} (hs : FSmall x) : CF 26 [fbookD x] (.bool true) := by
 have hsm := small7_con hs
 have hch := chg7_con
 cases hv : fvalidF x with
 | false =>
  rw [hv] at hsm
  exact contract_of_path (GF 154) tspa_fn (tspa_bad x) (by repeat (first | exact trivial | refine ⟨by first | exact hsm | exact hch,?_⟩))
 | true =>
  rw [hv] at hsm
  have hV := fvalid_iff.1 hv
  have hC := hV.chain
  have hdd := hC.days
  have hR := (right_con' hs.chain).up
  rw [show checkF x.chain = 0 from by have h := check_zero (b := x.chain); rw [valid_iff.2 hC] at h; simpa using h,valid_iff.2 hC,Bool.true_and] at hR
  have hP := fPlan_con hs
  unfold fPlanF at hP
  rw [err_of hV] at hP
  cases hc : canF x.chain with
  | false =>
   rw [hc] at hR
   rw [hc,if_neg (by decide)] at hP
   exact contract_of_path (GF 154) tspa_fn (tspa_false x) (by repeat (first | exact trivial | refine ⟨by first | exact hsm | exact hR | exact hP | exact hch,?_⟩))
  | true =>
   rw [hc] at hR
   rw [hc,if_pos rfl,if_pos rfl] at hP
   have hend : x.chain.days - (((x.chain.days + 1).toNat : Nat) : Int) = -1 := by omega
   have hbeg : x.chain.days - ((0 : Nat) : Int) = x.chain.days := by omega
   have hspec := fcut_spec (x := x) (by omega) (x.chain.days + 1).toNat (by omega)
   have hbn := planB_nil hV
   cases hf : fthinF x (knowTh x) (knowWr x) [] with
   | none =>
    rw [hf] at hspec
    dsimp only at hspec
    have hS := fStock_con hs
    unfold fStockF at hS
    rw [err_of hV,hc,if_pos rfl,if_pos rfl,spare_stock hV hf,if_neg (by decide)] at hS
    have hRe := fRest_con hs
    unfold fRestF at hRe
    rw [err_of hV,hc,if_pos rfl,if_pos rfl,spare_rest hV hf,if_pos (by decide)] at hRe
    rw [spare_best hV hf] at hP
    have hloop := tspa_loopZ hV hs hc
    rw [hspec,hend,hbeg] at hloop
    exact contract_of_path (GF 154) tspaZ_fn (tspaZ_spare x _ (-1) _) (by repeat (first | exact trivial | refine ⟨by first | exact hsm | exact hR | exact hP | exact hS | exact hRe | exact hloop | exact hch | decide,?_⟩))
   | some p =>
    obtain ⟨d0,s0⟩ := p
    rw [hf] at hspec
    dsimp only at hspec
    have hspec := hspec (by omega)
    have hF := fFirst_con hs (plan := []) (by simp)
    rw [fFirst_can hV hbn hc,hf] at hF
    have hne := some_best hV hf
    have d0' : decide ((d0 : Int) < 0) = false := decide_eq_false (by omega)
    have e1 : ((d0 : Int) == (d0 : Int)) = true := by simp
    have e2 : ((s0 : Int) == (s0 : Int)) = true := by simp
    generalize bestF x (knowTh x) (knowWr x) = o at hP hne
    obtain ⟨pl,fd⟩ := o
    cases fd with
    | false =>
     have hloop := tspa_loopN hV hs hc
     rw [hspec,hend,hbeg] at hloop
     exact contract_of_path (GF 154) tspaN_fn (tspaN_need x _ _ _ d0 s0) (by repeat (first | exact trivial | refine ⟨by first | exact hsm | exact hR | exact hP | exact hF | exact hloop | exact hch | exact d0' | exact e1 | exact e2,?_⟩))
    | true =>
     cases pl with
     | nil => exact absurd rfl (hne rfl)
     | cons w pl =>
      have hloop := tspa_loopY hV hs hc w pl
      rw [hspec,hend,hbeg] at hloop
      have e3 : decide (((w :: pl).length : Int) > 0) = true := decide_eq_true (by simp only [List.length_cons]; omega)
      exact contract_of_path (GF 154) tspaY_fn (tspaY_need x w pl _ _ _ d0 s0) (by repeat (first | exact trivial | refine ⟨by first | exact hsm | exact hR | exact hP | exact hF | exact hloop | exact hch | exact d0' | exact e1 | exact e2 | exact e3,?_⟩))
end Go.Di

