/- Part 29: an interpreter over plain data for this code, with the proof that it says what the model does, and the contracts of the functions. No condition. -/
import Derived.Test.YtfkmodcjddfeiaaDoorDi28
set_option linter.unusedVariables false
set_option linter.unusedSimpArgs false
namespace Go.Di
theorem lcost_fn : FnOk PRG (MF 27) 90 (body Proofs.Tryd.f90) [.tmp 2] := ⟨Proofs.Tryd.f90,by kernel_rfl,by kernel_rfl,by kernel_rfl,by kernel_rfl,by kernel_rfl⟩
theorem lstock_fn : FnOk PRG (MF 10) 91 (body Proofs.Tryd.f91) [.cell 4 84] := ⟨Proofs.Tryd.f91,by kernel_rfl,by kernel_rfl,by kernel_rfl,by kernel_rfl,by kernel_rfl⟩
theorem lstk2_fn : FnOk PRG (MF 102) 21 (body Proofs.Tryd.f21) [.tmp 4] := ⟨Proofs.Tryd.f21,by kernel_rfl,by kernel_rfl,by kernel_rfl,by kernel_rfl,by kernel_rfl⟩
theorem lcost_none (x : FBook) :
  callF (MF 27) [] [(9,.tup [.sl false .work [],.int .i64 4])] [] (body Proofs.Tryd.f90) [.tmp 2] [fbookD x] =
   some ([CF 77 [fbookD x] (D.tup [D.sl false E.work [],D.int .i64 (4 : Int)])],D.int .i64 (1000 : Int)) := by kernel_rfl
theorem lcost_err (x : FBook) (f g : Int) :
  callF (MF 27) [] [(9,.tup [.sl false .work [],.int .i64 72]),(17,.tup [.int .i64 f,.int .i64 g])] [] (body Proofs.Tryd.f90) [.tmp 2] [fbookD x] =
   some ([CF 77 [fbookD x] (D.tup [D.sl false E.work [],D.int .i64 (72 : Int)]),CF 84 [fbookD x,D.sl false E.work []] (D.tup [D.int .i64 f,D.int .i64 g])],D.int .i64 (-(1 : Int))) := by kernel_rfl
theorem lcost_ok (x : FBook) (p : List Work) (f : Int) :
  callF (MF 27) [] [(9,.tup [.sl false .work p,.int .i64 0]),(17,.tup [.int .i64 f,.int .i64 0])] [] (body Proofs.Tryd.f90) [.tmp 2] [fbookD x] =
   some ([CF 77 [fbookD x] (D.tup [D.sl false E.work p,D.int .i64 (0 : Int)]),CF 84 [fbookD x,D.sl false E.work p] (D.tup [D.int .i64 f,D.int .i64 (0 : Int)])],D.int .i64 f) := by kernel_rfl
theorem lstock_all (x : FBook) (c : Int) :
  callF (MF 10) [] [] [] (body Proofs.Tryd.f91) [.cell 4 84] [fbookD x,.int .i64 c] =
   some ([],D.agg [D.sl false E.sec (Book.secs (FBook.chain x)),D.sl false E.int (Book.turns (FBook.chain x)),D.sl false E.sv (Book.svs (FBook.chain x)),D.int .i64 (Book.rule (FBook.chain x)),D.int .i64 (Book.days (FBook.chain x)),D.sl false E.int (FBook.feet x),D.int .i64 (FBook.new x),D.sl false E.int (FBook.opn x),D.int .i64 c,D.int .i64 (FBook.make x)]) := by kernel_rfl
theorem lstk2_bad (x : FBook) (n : Int) :
  callF (MF 102) [] [(9,.bool false),(11,.bool true)] [] (body Proofs.Tryd.f21) [.tmp 4] [fbookD x,.int .i64 n] =
   some ([CF 72 [fbookD x] (D.bool false),CF 73 [] (D.bool true)],D.bool true) := by kernel_rfl
theorem lstk2_err (x : FBook) (n : Int) :
  callF (MF 102) [] [(9,.bool true),(14,.tup [.int .i64 0,.int .i64 72]),(18,.int .i64 (-1)),(36,.bool true)] [] (body Proofs.Tryd.f21) [.tmp 4] [fbookD x,.int .i64 n] =
   some ([CF 72 [fbookD x] (D.bool true),CF 89 [fbookD x] (D.tup [D.int .i64 (0 : Int),D.int .i64 (72 : Int)]),CF 90 [fbookD x] (D.int .i64 (-(1 : Int))),CF 73 [] (D.bool true)],D.bool true) := by kernel_rfl
theorem lstk2_none (x : FBook) (n : Int) (r c : Int) :
  callF (MF 102) [(65,false)] [(9,.bool true),(14,.tup [.int .i64 0,.int .i64 4]),(18,.int .i64 1000),(58,.int .i64 r),(61,fbookD (x.withStock (mn 200 (x.stock + r)))),(62,.int .i64 c),(72,fbookD (x.withStock 200)),(73,.int .i64 1000),(77,.bool true)] [] (body Proofs.Tryd.f21) [.tmp 4] [fbookD x,.int .i64 n] =
   some ([CF 72 [fbookD x] (D.bool true),CF 89 [fbookD x] (D.tup [D.int .i64 (0 : Int),D.int .i64 (4 : Int)]),CF 90 [fbookD x] (D.int .i64 (1000 : Int)),CF 39 [D.int .i64 n,D.int .i64 (30 : Int)] (D.int .i64 r),inI64 (FBook.stock x + r),CF 91 [fbookD x,D.int .i64 (List.foldl mn (200 : Int) [FBook.stock x + r])] (D.agg [D.sl false E.sec (Book.secs (FBook.chain (FBook.withStock x (mn (200 : Int) (FBook.stock x + r))))),D.sl false E.int (Book.turns (FBook.chain (FBook.withStock x (mn (200 : Int) (FBook.stock x + r))))),D.sl false E.sv (Book.svs (FBook.chain (FBook.withStock x (mn (200 : Int) (FBook.stock x + r))))),D.int .i64 (Book.rule (FBook.chain (FBook.withStock x (mn (200 : Int) (FBook.stock x + r))))),D.int .i64 (Book.days (FBook.chain (FBook.withStock x (mn (200 : Int) (FBook.stock x + r))))),D.sl false E.int (FBook.feet (FBook.withStock x (mn (200 : Int) (FBook.stock x + r)))),D.int .i64 (FBook.new (FBook.withStock x (mn (200 : Int) (FBook.stock x + r)))),D.sl false E.int (FBook.opn (FBook.withStock x (mn (200 : Int) (FBook.stock x + r)))),D.int .i64 (FBook.stock (FBook.withStock x (mn (200 : Int) (FBook.stock x + r)))),D.int .i64 (FBook.make (FBook.withStock x (mn (200 : Int) (FBook.stock x + r))))]),CF 90 [D.agg [D.sl false E.sec (Book.secs (FBook.chain (FBook.withStock x (mn (200 : Int) (FBook.stock x + r))))),D.sl false E.int (Book.turns (FBook.chain (FBook.withStock x (mn (200 : Int) (FBook.stock x + r))))),D.sl false E.sv (Book.svs (FBook.chain (FBook.withStock x (mn (200 : Int) (FBook.stock x + r))))),D.int .i64 (Book.rule (FBook.chain (FBook.withStock x (mn (200 : Int) (FBook.stock x + r))))),D.int .i64 (Book.days (FBook.chain (FBook.withStock x (mn (200 : Int) (FBook.stock x + r))))),D.sl false E.int (FBook.feet (FBook.withStock x (mn (200 : Int) (FBook.stock x + r)))),D.int .i64 (FBook.new (FBook.withStock x (mn (200 : Int) (FBook.stock x + r)))),D.sl false E.int (FBook.opn (FBook.withStock x (mn (200 : Int) (FBook.stock x + r)))),D.int .i64 (FBook.stock (FBook.withStock x (mn (200 : Int) (FBook.stock x + r)))),D.int .i64 (FBook.make (FBook.withStock x (mn (200 : Int) (FBook.stock x + r))))]] (D.int .i64 c),decide (c > (1000 : Int)) = false,CF 91 [fbookD x,D.int .i64 (200 : Int)] (D.agg [D.sl false E.sec (Book.secs (FBook.chain (FBook.withStock x (200 : Int)))),D.sl false E.int (Book.turns (FBook.chain (FBook.withStock x (200 : Int)))),D.sl false E.sv (Book.svs (FBook.chain (FBook.withStock x (200 : Int)))),D.int .i64 (Book.rule (FBook.chain (FBook.withStock x (200 : Int)))),D.int .i64 (Book.days (FBook.chain (FBook.withStock x (200 : Int)))),D.sl false E.int (FBook.feet (FBook.withStock x (200 : Int))),D.int .i64 (FBook.new (FBook.withStock x (200 : Int))),D.sl false E.int (FBook.opn (FBook.withStock x (200 : Int))),D.int .i64 (FBook.stock (FBook.withStock x (200 : Int))),D.int .i64 (FBook.make (FBook.withStock x (200 : Int)))]),CF 90 [D.agg [D.sl false E.sec (Book.secs (FBook.chain (FBook.withStock x (200 : Int)))),D.sl false E.int (Book.turns (FBook.chain (FBook.withStock x (200 : Int)))),D.sl false E.sv (Book.svs (FBook.chain (FBook.withStock x (200 : Int)))),D.int .i64 (Book.rule (FBook.chain (FBook.withStock x (200 : Int)))),D.int .i64 (Book.days (FBook.chain (FBook.withStock x (200 : Int)))),D.sl false E.int (FBook.feet (FBook.withStock x (200 : Int))),D.int .i64 (FBook.new (FBook.withStock x (200 : Int))),D.sl false E.int (FBook.opn (FBook.withStock x (200 : Int))),D.int .i64 (FBook.stock (FBook.withStock x (200 : Int))),D.int .i64 (FBook.make (FBook.withStock x (200 : Int)))]] (D.int .i64 (1000 : Int)),CF 73 [] (D.bool true)],D.bool true) := by kernel_rfl
theorem lstk2_zero (x : FBook) (n : Int) (r c : Int) (st f c2 : Int) :
  callF (MF 102) [(40,false),(53,false),(65,false),(88,false),(91,true)] [(9,.bool true),(14,.tup [.int .i64 st,.int .i64 0]),(18,.int .i64 f),(58,.int .i64 r),(61,fbookD (x.withStock (mn 200 (x.stock + r)))),(62,.int .i64 c),(80,.bool true),(85,fbookD (x.withStock st)),(86,.int .i64 c2),(100,.bool true)] [] (body Proofs.Tryd.f21) [.tmp 4] [fbookD x,.int .i64 n] =
   some ([CF 72 [fbookD x] (D.bool true),CF 89 [fbookD x] (D.tup [D.int .i64 st,D.int .i64 (0 : Int)]),CF 90 [fbookD x] (D.int .i64 f),decide (f < (0 : Int)) = false,decide (f < (0 : Int)) = false,decide (f < (0 : Int)) = false,decide (f < (0 : Int)) = false,decide (f < (0 : Int)) = false,decide (f < (0 : Int)) = false,decide (f < (0 : Int)) = false,decide (f < (0 : Int)) = false,(!decide (f < (1000 : Int)) == decide (FBook.stock x ≥ st)) = false,(!decide (f < (1000 : Int)) == decide (FBook.stock x ≥ st)) = false,(!decide (f < (1000 : Int)) == decide (FBook.stock x ≥ st)) = false,(!decide (f < (1000 : Int)) == decide (FBook.stock x ≥ st)) = false,(!decide (f < (1000 : Int)) == decide (FBook.stock x ≥ st)) = false,CF 39 [D.int .i64 n,D.int .i64 (30 : Int)] (D.int .i64 r),(!decide (f < (1000 : Int)) == decide (FBook.stock x ≥ st)) = false,inI64 (FBook.stock x + r),(!decide (f < (1000 : Int)) == decide (FBook.stock x ≥ st)) = false,(!decide (f < (1000 : Int)) == decide (FBook.stock x ≥ st)) = false,CF 91 [fbookD x,D.int .i64 (List.foldl mn (200 : Int) [FBook.stock x + r])] (D.agg [D.sl false E.sec (Book.secs (FBook.chain (FBook.withStock x (mn (200 : Int) (FBook.stock x + r))))),D.sl false E.int (Book.turns (FBook.chain (FBook.withStock x (mn (200 : Int) (FBook.stock x + r))))),D.sl false E.sv (Book.svs (FBook.chain (FBook.withStock x (mn (200 : Int) (FBook.stock x + r))))),D.int .i64 (Book.rule (FBook.chain (FBook.withStock x (mn (200 : Int) (FBook.stock x + r))))),D.int .i64 (Book.days (FBook.chain (FBook.withStock x (mn (200 : Int) (FBook.stock x + r))))),D.sl false E.int (FBook.feet (FBook.withStock x (mn (200 : Int) (FBook.stock x + r)))),D.int .i64 (FBook.new (FBook.withStock x (mn (200 : Int) (FBook.stock x + r)))),D.sl false E.int (FBook.opn (FBook.withStock x (mn (200 : Int) (FBook.stock x + r)))),D.int .i64 (FBook.stock (FBook.withStock x (mn (200 : Int) (FBook.stock x + r)))),D.int .i64 (FBook.make (FBook.withStock x (mn (200 : Int) (FBook.stock x + r))))]),(!decide (f < (1000 : Int)) == decide (FBook.stock x ≥ st)) = false,CF 90 [D.agg [D.sl false E.sec (Book.secs (FBook.chain (FBook.withStock x (mn (200 : Int) (FBook.stock x + r))))),D.sl false E.int (Book.turns (FBook.chain (FBook.withStock x (mn (200 : Int) (FBook.stock x + r))))),D.sl false E.sv (Book.svs (FBook.chain (FBook.withStock x (mn (200 : Int) (FBook.stock x + r))))),D.int .i64 (Book.rule (FBook.chain (FBook.withStock x (mn (200 : Int) (FBook.stock x + r))))),D.int .i64 (Book.days (FBook.chain (FBook.withStock x (mn (200 : Int) (FBook.stock x + r))))),D.sl false E.int (FBook.feet (FBook.withStock x (mn (200 : Int) (FBook.stock x + r)))),D.int .i64 (FBook.new (FBook.withStock x (mn (200 : Int) (FBook.stock x + r)))),D.sl false E.int (FBook.opn (FBook.withStock x (mn (200 : Int) (FBook.stock x + r)))),D.int .i64 (FBook.stock (FBook.withStock x (mn (200 : Int) (FBook.stock x + r)))),D.int .i64 (FBook.make (FBook.withStock x (mn (200 : Int) (FBook.stock x + r))))]] (D.int .i64 c),(!decide (f < (1000 : Int)) == decide (FBook.stock x ≥ st)) = false,(!decide (f < (1000 : Int)) == decide (FBook.stock x ≥ st)) = false,(!decide (f < (1000 : Int)) == decide (FBook.stock x ≥ st)) = false,decide (c > f) = false,CF 50 [D.int .i64 st,D.int .i64 (0 : Int),D.int .i64 (200 : Int)] (D.bool true),CF 91 [fbookD x,D.int .i64 st] (D.agg [D.sl false E.sec (Book.secs (FBook.chain (FBook.withStock x st))),D.sl false E.int (Book.turns (FBook.chain (FBook.withStock x st))),D.sl false E.sv (Book.svs (FBook.chain (FBook.withStock x st))),D.int .i64 (Book.rule (FBook.chain (FBook.withStock x st))),D.int .i64 (Book.days (FBook.chain (FBook.withStock x st))),D.sl false E.int (FBook.feet (FBook.withStock x st)),D.int .i64 (FBook.new (FBook.withStock x st)),D.sl false E.int (FBook.opn (FBook.withStock x st)),D.int .i64 (FBook.stock (FBook.withStock x st)),D.int .i64 (FBook.make (FBook.withStock x st))]),CF 90 [D.agg [D.sl false E.sec (Book.secs (FBook.chain (FBook.withStock x st))),D.sl false E.int (Book.turns (FBook.chain (FBook.withStock x st))),D.sl false E.sv (Book.svs (FBook.chain (FBook.withStock x st))),D.int .i64 (Book.rule (FBook.chain (FBook.withStock x st))),D.int .i64 (Book.days (FBook.chain (FBook.withStock x st))),D.sl false E.int (FBook.feet (FBook.withStock x st)),D.int .i64 (FBook.new (FBook.withStock x st)),D.sl false E.int (FBook.opn (FBook.withStock x st)),D.int .i64 (FBook.stock (FBook.withStock x st)),D.int .i64 (FBook.make (FBook.withStock x st))]] (D.int .i64 c2),(c2 == (1000 : Int)) = false,(st == (0 : Int)) = true,(st == (0 : Int)) = true,(st == (0 : Int)) = true,(st == (0 : Int)) = true,(st == (0 : Int)) = true,(st == (0 : Int)) = true,(st == (0 : Int)) = true,CF 73 [] (D.bool true)],D.bool true) := by kernel_rfl
theorem lstk2_some (x : FBook) (n : Int) (r c : Int) (st f c2 : Int) :
  callF (MF 102) [(40,false),(53,false),(65,false),(88,false),(91,false)] [(9,.bool true),(14,.tup [.int .i64 st,.int .i64 0]),(18,.int .i64 f),(58,.int .i64 r),(61,fbookD (x.withStock (mn 200 (x.stock + r)))),(62,.int .i64 c),(80,.bool true),(85,fbookD (x.withStock st)),(86,.int .i64 c2),(95,fbookD (x.withStock (st - 1))),(96,.int .i64 1000),(100,.bool true)] [] (body Proofs.Tryd.f21) [.tmp 4] [fbookD x,.int .i64 n] =
   some ([CF 72 [fbookD x] (D.bool true),CF 89 [fbookD x] (D.tup [D.int .i64 st,D.int .i64 (0 : Int)]),CF 90 [fbookD x] (D.int .i64 f),decide (f < (0 : Int)) = false,decide (f < (0 : Int)) = false,decide (f < (0 : Int)) = false,decide (f < (0 : Int)) = false,decide (f < (0 : Int)) = false,decide (f < (0 : Int)) = false,decide (f < (0 : Int)) = false,decide (f < (0 : Int)) = false,(!decide (f < (1000 : Int)) == decide (FBook.stock x ≥ st)) = false,(!decide (f < (1000 : Int)) == decide (FBook.stock x ≥ st)) = false,(!decide (f < (1000 : Int)) == decide (FBook.stock x ≥ st)) = false,(!decide (f < (1000 : Int)) == decide (FBook.stock x ≥ st)) = false,(!decide (f < (1000 : Int)) == decide (FBook.stock x ≥ st)) = false,CF 39 [D.int .i64 n,D.int .i64 (30 : Int)] (D.int .i64 r),(!decide (f < (1000 : Int)) == decide (FBook.stock x ≥ st)) = false,inI64 (FBook.stock x + r),(!decide (f < (1000 : Int)) == decide (FBook.stock x ≥ st)) = false,(!decide (f < (1000 : Int)) == decide (FBook.stock x ≥ st)) = false,CF 91 [fbookD x,D.int .i64 (List.foldl mn (200 : Int) [FBook.stock x + r])] (D.agg [D.sl false E.sec (Book.secs (FBook.chain (FBook.withStock x (mn (200 : Int) (FBook.stock x + r))))),D.sl false E.int (Book.turns (FBook.chain (FBook.withStock x (mn (200 : Int) (FBook.stock x + r))))),D.sl false E.sv (Book.svs (FBook.chain (FBook.withStock x (mn (200 : Int) (FBook.stock x + r))))),D.int .i64 (Book.rule (FBook.chain (FBook.withStock x (mn (200 : Int) (FBook.stock x + r))))),D.int .i64 (Book.days (FBook.chain (FBook.withStock x (mn (200 : Int) (FBook.stock x + r))))),D.sl false E.int (FBook.feet (FBook.withStock x (mn (200 : Int) (FBook.stock x + r)))),D.int .i64 (FBook.new (FBook.withStock x (mn (200 : Int) (FBook.stock x + r)))),D.sl false E.int (FBook.opn (FBook.withStock x (mn (200 : Int) (FBook.stock x + r)))),D.int .i64 (FBook.stock (FBook.withStock x (mn (200 : Int) (FBook.stock x + r)))),D.int .i64 (FBook.make (FBook.withStock x (mn (200 : Int) (FBook.stock x + r))))]),(!decide (f < (1000 : Int)) == decide (FBook.stock x ≥ st)) = false,CF 90 [D.agg [D.sl false E.sec (Book.secs (FBook.chain (FBook.withStock x (mn (200 : Int) (FBook.stock x + r))))),D.sl false E.int (Book.turns (FBook.chain (FBook.withStock x (mn (200 : Int) (FBook.stock x + r))))),D.sl false E.sv (Book.svs (FBook.chain (FBook.withStock x (mn (200 : Int) (FBook.stock x + r))))),D.int .i64 (Book.rule (FBook.chain (FBook.withStock x (mn (200 : Int) (FBook.stock x + r))))),D.int .i64 (Book.days (FBook.chain (FBook.withStock x (mn (200 : Int) (FBook.stock x + r))))),D.sl false E.int (FBook.feet (FBook.withStock x (mn (200 : Int) (FBook.stock x + r)))),D.int .i64 (FBook.new (FBook.withStock x (mn (200 : Int) (FBook.stock x + r)))),D.sl false E.int (FBook.opn (FBook.withStock x (mn (200 : Int) (FBook.stock x + r)))),D.int .i64 (FBook.stock (FBook.withStock x (mn (200 : Int) (FBook.stock x + r)))),D.int .i64 (FBook.make (FBook.withStock x (mn (200 : Int) (FBook.stock x + r))))]] (D.int .i64 c),(!decide (f < (1000 : Int)) == decide (FBook.stock x ≥ st)) = false,(!decide (f < (1000 : Int)) == decide (FBook.stock x ≥ st)) = false,(!decide (f < (1000 : Int)) == decide (FBook.stock x ≥ st)) = false,decide (c > f) = false,CF 50 [D.int .i64 st,D.int .i64 (0 : Int),D.int .i64 (200 : Int)] (D.bool true),CF 91 [fbookD x,D.int .i64 st] (D.agg [D.sl false E.sec (Book.secs (FBook.chain (FBook.withStock x st))),D.sl false E.int (Book.turns (FBook.chain (FBook.withStock x st))),D.sl false E.sv (Book.svs (FBook.chain (FBook.withStock x st))),D.int .i64 (Book.rule (FBook.chain (FBook.withStock x st))),D.int .i64 (Book.days (FBook.chain (FBook.withStock x st))),D.sl false E.int (FBook.feet (FBook.withStock x st)),D.int .i64 (FBook.new (FBook.withStock x st)),D.sl false E.int (FBook.opn (FBook.withStock x st)),D.int .i64 (FBook.stock (FBook.withStock x st)),D.int .i64 (FBook.make (FBook.withStock x st))]),CF 90 [D.agg [D.sl false E.sec (Book.secs (FBook.chain (FBook.withStock x st))),D.sl false E.int (Book.turns (FBook.chain (FBook.withStock x st))),D.sl false E.sv (Book.svs (FBook.chain (FBook.withStock x st))),D.int .i64 (Book.rule (FBook.chain (FBook.withStock x st))),D.int .i64 (Book.days (FBook.chain (FBook.withStock x st))),D.sl false E.int (FBook.feet (FBook.withStock x st)),D.int .i64 (FBook.new (FBook.withStock x st)),D.sl false E.int (FBook.opn (FBook.withStock x st)),D.int .i64 (FBook.stock (FBook.withStock x st)),D.int .i64 (FBook.make (FBook.withStock x st))]] (D.int .i64 c2),(c2 == (1000 : Int)) = false,(st == (0 : Int)) = false,(st == (0 : Int)) = false,(st == (0 : Int)) = false,inI64 (st - (1 : Int)),(st == (0 : Int)) = false,CF 91 [fbookD x,D.int .i64 (st - (1 : Int))] (D.agg [D.sl false E.sec (Book.secs (FBook.chain (FBook.withStock x (st - (1 : Int))))),D.sl false E.int (Book.turns (FBook.chain (FBook.withStock x (st - (1 : Int))))),D.sl false E.sv (Book.svs (FBook.chain (FBook.withStock x (st - (1 : Int))))),D.int .i64 (Book.rule (FBook.chain (FBook.withStock x (st - (1 : Int))))),D.int .i64 (Book.days (FBook.chain (FBook.withStock x (st - (1 : Int))))),D.sl false E.int (FBook.feet (FBook.withStock x (st - (1 : Int)))),D.int .i64 (FBook.new (FBook.withStock x (st - (1 : Int)))),D.sl false E.int (FBook.opn (FBook.withStock x (st - (1 : Int)))),D.int .i64 (FBook.stock (FBook.withStock x (st - (1 : Int)))),D.int .i64 (FBook.make (FBook.withStock x (st - (1 : Int))))]),(st == (0 : Int)) = false,CF 90 [D.agg [D.sl false E.sec (Book.secs (FBook.chain (FBook.withStock x (st - (1 : Int))))),D.sl false E.int (Book.turns (FBook.chain (FBook.withStock x (st - (1 : Int))))),D.sl false E.sv (Book.svs (FBook.chain (FBook.withStock x (st - (1 : Int))))),D.int .i64 (Book.rule (FBook.chain (FBook.withStock x (st - (1 : Int))))),D.int .i64 (Book.days (FBook.chain (FBook.withStock x (st - (1 : Int))))),D.sl false E.int (FBook.feet (FBook.withStock x (st - (1 : Int)))),D.int .i64 (FBook.new (FBook.withStock x (st - (1 : Int)))),D.sl false E.int (FBook.opn (FBook.withStock x (st - (1 : Int)))),D.int .i64 (FBook.stock (FBook.withStock x (st - (1 : Int)))),D.int .i64 (FBook.make (FBook.withStock x (st - (1 : Int))))]] (D.int .i64 (1000 : Int)),(st == (0 : Int)) = false,(st == (0 : Int)) = false,CF 73 [] (D.bool true)],D.bool true) := by kernel_rfl
end Go.Di

namespace Go.Di
theorem best_plan {x : FBook} (hV : FValid x) (h : (bestF x (knowTh x) (knowWr x)).2 = true) : IsPlan x (bestF x (knowTh x) (knowWr x)).1 := by
 obtain ⟨⟨f,hf⟩,_⟩ := best_is hV.inn hV.opn.2 _ _ h
 rw [hf]
 exact grd_plan hV f
theorem cost_con {x : FBook} (hV : FValid x) (hs : FSmall x) : CF 90 [fbookD x] (.int .i64 (costV x)) := by
 have hP := fPlan_con hs
 unfold fPlanF at hP
 rw [err_of hV] at hP
 unfold costV
 have hb := best_plan hV
 cases hc : canF x.chain with
 | false =>
  rw [hc,if_neg (by decide)] at hP
  have hf := fFeet_con hs (plan := []) (by simp)
  exact contract_of_path (GF 27) lcost_fn (lcost_err x _ _) ⟨hP,hf,trivial⟩
 | true =>
  rw [hc,if_pos rfl,if_pos rfl] at hP
  rw [if_pos rfl]
  generalize bestF x (knowTh x) (knowWr x) = o at hP hb ⊢
  obtain ⟨p,f⟩ := o
  cases f with
  | false => exact contract_of_path (GF 27) lcost_fn (lcost_none x) ⟨hP,trivial⟩
  | true =>
   have hp : IsPlan x p := hb rfl
   have hf := fFeet_con hs (plan := p) (by have := plan_len hV hp; omega)
   have e1 : fplanE x p = 0 := by unfold fplanE; rw [fvalid_iff.2 hV,show planB x p = true from (isPlan_iff hV).2 hp]; rfl
   unfold fFeetF at hf
   rw [if_pos e1] at hf
   exact contract_of_path (GF 27) lcost_fn (lcost_ok x p _) ⟨hP,hf,trivial⟩
theorem stocking_con (x : FBook) (c : Int) : CF 91 [fbookD x,.int .i64 c] (fbookD (x.withStock c)) := contract_of_path (GF 10) lstock_fn (lstock_all x c) trivial
theorem feet_lt {x : FBook} (hV : FValid x) {p : List Work} (hp : IsPlan x p) : 0 ≤ feetF x p ∧ feetF x p < 1000 := by
 -- a part of the grid of all
 have hx := hV.inn
 have hn := hx.n
 have hlen : (p.length : Int) ≤ 16 := by
  have hnd : ∀ w ∈ p,w ∈ grdF x (fun _ _ => true) := fun w hw => by
   obtain ⟨h1,h2,h3⟩ := hp.1 w hw
   obtain ⟨k,hk,he⟩ := mem_iff_getD.1 h1
   exact grd_mem.2 ⟨k,w.s.toNat,hk,by omega,rfl,by obtain ⟨a,b⟩ := w; rw [Work.mk.injEq]; exact ⟨he.symm,by show b = ((b.toNat : Nat) : Int); have h2' : 0 ≤ b := h2; omega⟩⟩
  have hnodup : p.Nodup := hp.2.imp fun {a b} h => by intro e; subst e; unfold wlt at h; omega
  have := hnodup.length_le_of_subset hnd
  have hg := grdTo_len x (fun _ _ => true) x.opn.length
  have hg' : (grdF x (fun _ _ => true)).length ≤ x.opn.length * x.feet.length := hg
  have hm : x.opn.length * x.feet.length ≤ 4 * 4 := Nat.mul_le_mul hV.opnl hn.2
  omega
 have key : ∀ l : List Work,(∀ w ∈ l,0 ≤ w.s ∧ w.s < x.feet.length) → 0 ≤ feetF x l ∧ feetF x l ≤ 30 * (l.length : Int) := by
  intro l
  induction l with
  | nil => exact fun _ => ⟨Int.le_refl 0,by simp [feetF,feetLF,sumF]⟩
  | cons w l ih =>
   intro h
   have h1 := ih fun v hv => h v (by simp [hv])
   have hw := h w (by simp)
   have h2 := hV.each _ (mem_getD 0 (show w.s.toNat < x.feet.length by omega))
   rw [feet_cons,List.length_cons]
   omega
 have := key p fun w hw => (hp.1 w hw).2
 omega
theorem cost_in {x : FBook} (hV : FValid x) (hc : canF x.chain = true) : 0 ≤ costV x ∧ costV x ≤ 1000 ∧ (costV x < 1000 ↔ (bestF x (knowTh x) (knowWr x)).2 = true) := by
 have hb := best_plan hV
 unfold costV
 rw [if_pos hc]
 generalize bestF x (knowTh x) (knowWr x) = o at hb ⊢
 obtain ⟨p,f⟩ := o
 cases f with
 | false => exact ⟨show (0 : Int) ≤ 1000 by decide,show (1000 : Int) ≤ 1000 by decide,by simp⟩
 | true =>
  have h : 0 ≤ feetF x p ∧ feetF x p < 1000 := feet_lt hV (hb rfl)
  exact ⟨h.1,show feetF x p ≤ 1000 by omega,by simp; exact h.2⟩
/-- With more stock the best plan takes no more feet. -/
theorem cost_mono {x : FBook} (hV : FValid x) (hc : canF x.chain = true) {c : Int} (hcs : x.stock ≤ c) (hc2 : c ≤ 200) : costV (x.withStock c) ≤ costV x := by
 have hsk := hV.stock
 have hVc := stock_valid hV (c := c) ⟨by omega,hc2⟩
 obtain ⟨a1,a2,a3⟩ := cost_in hV hc
 obtain ⟨b1,b2,b3⟩ := cost_in hVc hc
 by_cases h : costV x < 1000
 ·have hf := a3.1 h
  obtain ⟨⟨f,h1⟩,h2,h3⟩ := best_is hV.inn hV.opn.2 _ _ hf
  rw [fgood_iff] at h3
  rw [h1] at h2 h3
  have hle := best_le hV.inn hV.opn.2 (knowTh x) (knowWr x) (c := c) ⟨by omega,by omega⟩ h2 (by omega)
  have hfd := (found_iff hV.inn hV.opn.2 (knowTh x) (knowWr x) (c := c) ⟨by omega,by omega⟩).2 ⟨f,h2,by omega⟩
  have e1 : costV x = feetF x (bestF x (knowTh x) (knowWr x)).1 := by
   unfold costV
   rw [if_pos hc]
   generalize bestF x (knowTh x) (knowWr x) = o at hf ⊢
   obtain ⟨p,g⟩ := o
   dsimp only at hf
   subst hf
   rfl
  have e2 : costV (x.withStock c) = feetF x (bestF (x.withStock c) (knowTh x) (knowWr x)).1 := by
   have hfd' : (bestF (x.withStock c) (knowTh (x.withStock c)) (knowWr (x.withStock c))).2 = true := hfd
   show (if canF x.chain = true then (match bestF (x.withStock c) (knowTh (x.withStock c)) (knowWr (x.withStock c)) with
    | (p,true) => feetF (x.withStock c) p
    | (_,false) => 1000) else -1) = feetF x (bestF (x.withStock c) (knowTh (x.withStock c)) (knowWr (x.withStock c))).1
   rw [if_pos hc]
   generalize bestF (x.withStock c) (knowTh (x.withStock c)) (knowWr (x.withStock c)) = o at hfd' ⊢
   obtain ⟨p,g⟩ := o
   dsimp only at hfd'
   subst hfd'
   rfl
  rw [e1,e2,h1]
  exact hle
 ·omega
theorem small_stock {x : FBook} (hs : FSmall x) (c : Int) : FSmall (x.withStock c) := ⟨hs.chain,hs.feet,hs.opn⟩
theorem mn_val (c d : Int) : mn c d ≤ c ∧ mn c d ≤ d ∧ (mn c d = c ∨ mn c d = d) := by unfold mn; split <;> omega
/-- THE LAW ForgeStock. -/
theorem lstk2_con {x : FBook} (hs : FSmall x) (n : Int) : CF 21 [fbookD x,.int .i64 n] (.bool true) := by
 have hsound := fsound_con hs
 cases hv : fvalidF x with
 | false =>
  rw [hv] at hsound
  exact contract_of_path (GF 102) lstk2_fn (lstk2_bad x n) ⟨hsound,riv_con,trivial⟩
 | true =>
  rw [hv] at hsound
  have hV := fvalid_iff.1 hv
  have hx := hV.inn
  have ho := hV.opn.2
  have hsk := hV.stock
  have hSt := fStock_con hs
  unfold fStockF at hSt
  rw [err_of hV] at hSt
  have hCo := cost_con hV hs
  have hm := modU_con n 30 (by omega)
  have hr := modF_in (n := n) (m := 30) (by omega)
  cases hc : canF x.chain with
  | false =>
   rw [hc,if_neg (by decide)] at hSt
   have e : costV x = -1 := by unfold costV; rw [hc]; rfl
   rw [e] at hCo
   exact contract_of_path (GF 102) lstk2_fn (lstk2_err x n) ⟨hsound,hSt,hCo,riv_con,trivial⟩
  | true =>
   rw [hc,if_pos rfl,if_pos rfl] at hSt
   generalize modF n 30 = r at hm hr
   obtain ⟨v1,v2,v3⟩ := mn_val 200 (x.stock + r)
   have hV1 := stock_valid hV (c := mn 200 (x.stock + r)) ⟨by omega,v1⟩
   have hC1 := cost_con hV1 (small_stock hs _)
   have hle := cost_mono hV hc (c := mn 200 (x.stock + r)) (by omega) v1
   have hst1 := stocking_con x (mn 200 (x.stock + r))
   have i1 : inI64 (x.stock + r) := i64_of (by omega) (by omega)
   obtain ⟨a1,a2,a3⟩ := cost_in hV hc
   have hfo := fun c (h : 0 ≤ c ∧ c ≤ 200) => (found_iff hx ho (knowTh x) (knowWr x) (c := c) ⟨h.1,by omega⟩).trans (stock_le hx ho (knowTh x) (knowWr x) h.2).symm
   have hcc := fun c (h : 0 ≤ c ∧ c ≤ 200) => (cost_in (stock_valid hV h) hc).2.2.trans (hfo c h)
   have hself : costV x < 1000 ↔ stockF x (knowTh x) (knowWr x) ≤ x.stock := hcc x.stock hsk
   have hnn := stock_nn (x := x) (knowTh x) (knowWr x)
   have hgt : decide (costV (x.withStock (mn 200 (x.stock + r))) > costV x) = false := decide_eq_false (by omega)
   by_cases hbig : stockF x (knowTh x) (knowWr x) > 200
   ·rw [if_pos hbig] at hSt
    have e1 : costV x = 1000 := by have h := mt hself.1 (by omega); omega
    rw [e1] at hCo hgt
    have h200 := hcc 200 (by omega)
    have hb200 := cost_in (stock_valid hV (c := 200) (by omega)) hc
    have e2 : costV (x.withStock 200) = 1000 := by have h := mt h200.1 (by omega); omega
    have hC2 := cost_con (stock_valid hV (c := 200) (by omega)) (small_stock hs 200)
    rw [e2] at hC2
    have hst2 := stocking_con x 200
    exact contract_of_path (GF 102) lstk2_fn (lstk2_none x n r _) (by
     repeat (first | exact trivial | refine ⟨by first | exact hsound | exact hSt | exact hCo | exact hm | exact i1 | exact hst1 | exact hC1 | exact hgt | exact hst2 | exact hC2 | exact riv_con,?_⟩))
   ·rw [if_neg hbig] at hSt
    generalize hsf : stockF x (knowTh x) (knowWr x) = st at *
    have hst0 : 0 ≤ st ∧ st ≤ 200 := ⟨hnn,by omega⟩
    have d1 : decide (costV x < 0) = false := decide_eq_false (by omega)
    have d2 : (!decide (costV x < 1000) == decide (x.stock ≥ st)) = false := by
     by_cases h : costV x < 1000
     ·rw [decide_eq_true h,decide_eq_true (show x.stock ≥ st from hself.1 h)]; rfl
     ·rw [decide_eq_false h,decide_eq_false (fun h2 => h (hself.2 h2))]; rfl
    have hin := inside_t (n := st) (lo := 0) (hi := 200) hst0
    have hV2 := stock_valid hV hst0
    have hC2 := cost_con hV2 (small_stock hs st)
    have hst2 := stocking_con x st
    have h2 := (hcc st hst0).2 (Int.le_refl _)
    have d3 : (costV (x.withStock st) == 1000) = false := by rw [beq_eq_false_iff_ne]; omega
    by_cases hz : st = 0
    ·have d4 : (st == 0) = true := by simpa using hz
     exact contract_of_path (GF 102) lstk2_fn (lstk2_zero x n r _ st _ _) (by
      repeat (first | exact trivial | refine ⟨by first | exact hsound | exact hSt | exact hCo | exact hm | exact i1 | exact hst1 | exact hC1 | exact hgt | exact hst2 | exact hC2 | exact d1 | exact d2 | exact d3 | exact d4 | exact hin | exact riv_con,?_⟩))
    ·have d4 : (st == 0) = false := by simpa using hz
     have hst3 := stocking_con x (st - 1)
     have hV3 := stock_valid hV (c := st - 1) ⟨by omega,by omega⟩
     have hC3 := cost_con hV3 (small_stock hs (st - 1))
     have h3 := hcc (st - 1) ⟨by omega,by omega⟩
     have hb3 := cost_in hV3 hc
     have e3 : costV (x.withStock (st - 1)) = 1000 := by have h := mt h3.1 (by omega); omega
     rw [e3] at hC3
     have i2 : inI64 (st - 1) := i64_of (by omega) (by omega)
     exact contract_of_path (GF 102) lstk2_fn (lstk2_some x n r _ st _ _) (by
      repeat (first | exact trivial | refine ⟨by first | exact hsound | exact hSt | exact hCo | exact hm | exact i1 | exact i2 | exact hst1 | exact hC1 | exact hgt | exact hst2 | exact hC2 | exact hst3 | exact hC3 | exact d1 | exact d2 | exact d3 | exact d4 | exact hin | exact riv_con,?_⟩))
end Go.Di

