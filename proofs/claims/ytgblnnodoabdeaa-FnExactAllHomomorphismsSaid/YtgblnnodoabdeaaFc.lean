/-
Facts of the loaded program that the abstract walk asks: the shapes of its types, and that its functions are in form. Printed by a program of this session (Facts.lean).
-/
import Derived.Test.YtgblnnodoabdeaaAbsQ
import Derived.Test.YtgblnnodoabdeaaRows
namespace Go.Proofs.Ytgblnnodoabdeaa
open Go Go.Abs
set_option linter.defProp false
set_option maxRecDepth 100000

theorem mix : Try.prog.follows .mixedOrders = true := by kernel_rfl
theorem ty25 : tyOf Try.prog 25 = .st [(0, 1), (1, 100)] 101 := by kernel_rfl
theorem sz25 : szOf Try.prog 25 = 101 := by kernel_rfl
theorem in25 : (Try.prog.info? 25).isSome = true := by kernel_rfl
theorem ty2 : tyOf Try.prog 2 = .int .i64 := by kernel_rfl
theorem sz2 : szOf Try.prog 2 = 1 := by kernel_rfl
theorem in2 : (Try.prog.info? 2).isSome = true := by kernel_rfl
theorem ty3 : tyOf Try.prog 3 = .int .i64 := by kernel_rfl
theorem sz3 : szOf Try.prog 3 = 1 := by kernel_rfl
theorem in3 : (Try.prog.info? 3).isSome = true := by kernel_rfl
theorem ty39 : tyOf Try.prog 39 = .arr 10 1 10 := by kernel_rfl
theorem sz39 : szOf Try.prog 39 = 10 := by kernel_rfl
theorem in39 : (Try.prog.info? 39).isSome = true := by kernel_rfl
theorem ty31 : tyOf Try.prog 31 = .st [(0, 1), (1, 100)] 101 := by kernel_rfl
theorem sz31 : szOf Try.prog 31 = 101 := by kernel_rfl
theorem in31 : (Try.prog.info? 31).isSome = true := by kernel_rfl
theorem ty54 : tyOf Try.prog 54 = .sl 1 8 := by kernel_rfl
theorem sz54 : szOf Try.prog 54 = 1 := by kernel_rfl
theorem in54 : (Try.prog.info? 54).isSome = true := by kernel_rfl
theorem ty4 : tyOf Try.prog 4 = .bool := by kernel_rfl
theorem sz4 : szOf Try.prog 4 = 1 := by kernel_rfl
theorem in4 : (Try.prog.info? 4).isSome = true := by kernel_rfl
theorem ty26 : tyOf Try.prog 26 = .sl 1 24 := by kernel_rfl
theorem sz26 : szOf Try.prog 26 = 1 := by kernel_rfl
theorem in26 : (Try.prog.info? 26).isSome = true := by kernel_rfl
theorem ty23 : tyOf Try.prog 23 = .arr 10 10 100 := by kernel_rfl
theorem sz23 : szOf Try.prog 23 = 100 := by kernel_rfl
theorem in23 : (Try.prog.info? 23).isSome = true := by kernel_rfl
theorem ty29 : tyOf Try.prog 29 = .arr 10 10 100 := by kernel_rfl
theorem sz29 : szOf Try.prog 29 = 100 := by kernel_rfl
theorem in29 : (Try.prog.info? 29).isSome = true := by kernel_rfl
theorem ty45 : tyOf Try.prog 45 = .sl 10 10 := by kernel_rfl
theorem sz45 : szOf Try.prog 45 = 1 := by kernel_rfl
theorem in45 : (Try.prog.info? 45).isSome = true := by kernel_rfl
theorem ty5 : tyOf Try.prog 5 = .int .u8 := by kernel_rfl
theorem sz5 : szOf Try.prog 5 = 1 := by kernel_rfl
theorem in5 : (Try.prog.info? 5).isSome = true := by kernel_rfl
theorem ty79 : tyOf Try.prog 79 = .arr 10 1 10 := by kernel_rfl
theorem sz79 : szOf Try.prog 79 = 10 := by kernel_rfl
theorem in79 : (Try.prog.info? 79).isSome = true := by kernel_rfl
theorem ty81 : tyOf Try.prog 81 = .st [(0, 101), (101, 101), (202, 10)] 212 := by kernel_rfl
theorem sz81 : szOf Try.prog 81 = 212 := by kernel_rfl
theorem in81 : (Try.prog.info? 81).isSome = true := by kernel_rfl
theorem ty22 : tyOf Try.prog 22 = .arr 10 1 10 := by kernel_rfl
theorem sz22 : szOf Try.prog 22 = 10 := by kernel_rfl
theorem in22 : (Try.prog.info? 22).isSome = true := by kernel_rfl
theorem ty82 : tyOf Try.prog 82 = .sc := by kernel_rfl
theorem sz82 : szOf Try.prog 82 = 1 := by kernel_rfl
theorem in82 : (Try.prog.info? 82).isSome = true := by kernel_rfl
theorem ty83 : tyOf Try.prog 83 = .sl 1 1 := by kernel_rfl
theorem sz83 : szOf Try.prog 83 = 1 := by kernel_rfl
theorem in83 : (Try.prog.info? 83).isSome = true := by kernel_rfl
theorem ty96 : tyOf Try.prog 96 = .sl 1 8 := by kernel_rfl
theorem sz96 : szOf Try.prog 96 = 1 := by kernel_rfl
theorem in96 : (Try.prog.info? 96).isSome = true := by kernel_rfl
theorem ty106 : tyOf Try.prog 106 = .st [(0, 1), (1, 1), (2, 100), (102, 1)] 103 := by kernel_rfl
theorem sz106 : szOf Try.prog 106 = 103 := by kernel_rfl
theorem in106 : (Try.prog.info? 106).isSome = true := by kernel_rfl
theorem ty108 : tyOf Try.prog 108 = .arr 10 1 10 := by kernel_rfl
theorem sz108 : szOf Try.prog 108 = 10 := by kernel_rfl
theorem in108 : (Try.prog.info? 108).isSome = true := by kernel_rfl
theorem ty110 : tyOf Try.prog 110 = .sc := by kernel_rfl
theorem sz110 : szOf Try.prog 110 = 1 := by kernel_rfl
theorem in110 : (Try.prog.info? 110).isSome = true := by kernel_rfl
theorem ty124 : tyOf Try.prog 124 = .st [(0, 101), (101, 101), (202, 10), (212, 10)] 222 := by kernel_rfl
theorem sz124 : szOf Try.prog 124 = 222 := by kernel_rfl
theorem in124 : (Try.prog.info? 124).isSome = true := by kernel_rfl
theorem ty125 : tyOf Try.prog 125 = .sc := by kernel_rfl
theorem sz125 : szOf Try.prog 125 = 1 := by kernel_rfl
theorem in125 : (Try.prog.info? 125).isSome = true := by kernel_rfl
theorem ty131 : tyOf Try.prog 131 = .arr 2 1 2 := by kernel_rfl
theorem sz131 : szOf Try.prog 131 = 2 := by kernel_rfl
theorem in131 : (Try.prog.info? 131).isSome = true := by kernel_rfl
theorem ty132 : tyOf Try.prog 132 = .sl 2 2 := by kernel_rfl
theorem sz132 : szOf Try.prog 132 = 1 := by kernel_rfl
theorem in132 : (Try.prog.info? 132).isSome = true := by kernel_rfl
theorem ty90 : tyOf Try.prog 90 = .st [(0, 10), (10, 10), (20, 10)] 30 := by kernel_rfl
theorem sz90 : szOf Try.prog 90 = 30 := by kernel_rfl
theorem in90 : (Try.prog.info? 90).isSome = true := by kernel_rfl
theorem ty147 : tyOf Try.prog 147 = .arr 10 1 10 := by kernel_rfl
theorem sz147 : szOf Try.prog 147 = 10 := by kernel_rfl
theorem in147 : (Try.prog.info? 147).isSome = true := by kernel_rfl
theorem ty150 : tyOf Try.prog 150 = .sc := by kernel_rfl
theorem sz150 : szOf Try.prog 150 = 1 := by kernel_rfl
theorem in150 : (Try.prog.info? 150).isSome = true := by kernel_rfl
theorem ty153 : tyOf Try.prog 153 = .sl 111 120 := by kernel_rfl
theorem sz153 : szOf Try.prog 153 = 1 := by kernel_rfl
theorem in153 : (Try.prog.info? 153).isSome = true := by kernel_rfl
theorem ty157 : tyOf Try.prog 157 = .st [(0, 1), (1, 10), (11, 100)] 111 := by kernel_rfl
theorem sz157 : szOf Try.prog 157 = 111 := by kernel_rfl
theorem in157 : (Try.prog.info? 157).isSome = true := by kernel_rfl
theorem ty121 : tyOf Try.prog 121 = .st [(0, 10), (10, 10), (20, 1)] 21 := by kernel_rfl
theorem sz121 : szOf Try.prog 121 = 21 := by kernel_rfl
theorem in121 : (Try.prog.info? 121).isSome = true := by kernel_rfl
theorem ty77 : tyOf Try.prog 77 = .sc := by kernel_rfl
theorem sz77 : szOf Try.prog 77 = 1 := by kernel_rfl
theorem in77 : (Try.prog.info? 77).isSome = true := by kernel_rfl
theorem ty166 : tyOf Try.prog 166 = .sc := by kernel_rfl
theorem sz166 : szOf Try.prog 166 = 1 := by kernel_rfl
theorem in166 : (Try.prog.info? 166).isSome = true := by kernel_rfl
theorem ty151 : tyOf Try.prog 151 = .int .i64 := by kernel_rfl
theorem sz151 : szOf Try.prog 151 = 1 := by kernel_rfl
theorem in151 : (Try.prog.info? 151).isSome = true := by kernel_rfl
theorem ty173 : tyOf Try.prog 173 = .st [(0, 1), (1, 10), (11, 1000), (1011, 100)] 1111 := by kernel_rfl
theorem sz173 : szOf Try.prog 173 = 1111 := by kernel_rfl
theorem in173 : (Try.prog.info? 173).isSome = true := by kernel_rfl
theorem ty170 : tyOf Try.prog 170 = .arr 10 100 1000 := by kernel_rfl
theorem sz170 : szOf Try.prog 170 = 1000 := by kernel_rfl
theorem in170 : (Try.prog.info? 170).isSome = true := by kernel_rfl
theorem ty155 : tyOf Try.prog 155 = .arr 10 10 100 := by kernel_rfl
theorem sz155 : szOf Try.prog 155 = 100 := by kernel_rfl
theorem in155 : (Try.prog.info? 155).isSome = true := by kernel_rfl
theorem ty171 : tyOf Try.prog 171 = .arr 10 10 100 := by kernel_rfl
theorem sz171 : szOf Try.prog 171 = 100 := by kernel_rfl
theorem in171 : (Try.prog.info? 171).isSome = true := by kernel_rfl
theorem ty137 : tyOf Try.prog 137 = .sc := by kernel_rfl
theorem sz137 : szOf Try.prog 137 = 1 := by kernel_rfl
theorem in137 : (Try.prog.info? 137).isSome = true := by kernel_rfl
theorem zo39 : zeroOf Try.prog 39 = some [(0, .ints .u8 10 (List.replicate 10 0))] := by kernel_rfl
theorem zo31 : zeroOf Try.prog 31 = some [(0, .ints .i64 1 [0]), (1, .ints .u8 100 (List.replicate 100 0))] := by kernel_rfl
theorem zo26 : zeroOf Try.prog 26 = some [(0, .cells 1 [.nils])] := by kernel_rfl
theorem zo2 : zeroOf Try.prog 2 = some [(0, .ints .i64 1 [0])] := by kernel_rfl
theorem zo79 : zeroOf Try.prog 79 = some [(0, .ints .i64 10 (List.replicate 10 0))] := by kernel_rfl
theorem zo81 : zeroOf Try.prog 81 = some [(0, .ints .i64 1 [0]), (1, .ints .u8 100 (List.replicate 100 0)), (101, .ints .i64 1 [0]), (102, .ints .u8 100 (List.replicate 100 0)), (202, .ints .u8 10 (List.replicate 10 0))] := by kernel_rfl
theorem zo82 : zeroOf Try.prog 82 = some [(0, .cells 1 [.nilf])] := by kernel_rfl
theorem zo106 : zeroOf Try.prog 106 = some [(0, .ints .i64 1 [0]), (1, .cells 1 [.nils]), (2, .ints .u8 100 (List.replicate 100 0)), (102, .ints .i64 1 [0])] := by kernel_rfl
theorem zo108 : zeroOf Try.prog 108 = some [(0, .cells 10 [.nils, .nils, .nils, .nils, .nils, .nils, .nils, .nils, .nils, .nils])] := by kernel_rfl
theorem zo45 : zeroOf Try.prog 45 = some [(0, .cells 1 [.nils])] := by kernel_rfl
theorem zo3 : zeroOf Try.prog 3 = some [(0, .ints .i64 1 [0])] := by kernel_rfl
theorem zo110 : zeroOf Try.prog 110 = some [(0, .cells 1 [.nilf])] := by kernel_rfl
theorem zo29 : zeroOf Try.prog 29 = some [(0, .ints .u8 100 (List.replicate 100 0))] := by kernel_rfl
theorem zo124 : zeroOf Try.prog 124 = some [(0, .ints .i64 1 [0]), (1, .ints .u8 100 (List.replicate 100 0)), (101, .ints .i64 1 [0]), (102, .ints .u8 100 (List.replicate 100 0)), (202, .ints .u8 10 (List.replicate 10 0)), (212, .ints .u8 10 (List.replicate 10 0))] := by kernel_rfl
theorem zo125 : zeroOf Try.prog 125 = some [(0, .cells 1 [.nilf])] := by kernel_rfl
theorem zo131 : zeroOf Try.prog 131 = some [(0, .ints .u8 2 (List.replicate 2 0))] := by kernel_rfl
theorem zo90 : zeroOf Try.prog 90 = some [(0, .ints .u8 10 (List.replicate 10 0)), (10, .ints .u8 10 (List.replicate 10 0)), (20, .ints .u8 10 (List.replicate 10 0))] := by kernel_rfl
theorem zo147 : zeroOf Try.prog 147 = some [(0, .bools 10 (List.replicate 10 false))] := by kernel_rfl
theorem zo150 : zeroOf Try.prog 150 = some [(0, .cells 1 [.nilf])] := by kernel_rfl
theorem zo22 : zeroOf Try.prog 22 = some [(0, .ints .u8 10 (List.replicate 10 0))] := by kernel_rfl
theorem zo121 : zeroOf Try.prog 121 = some [(0, .ints .i64 10 (List.replicate 10 0)), (10, .ints .i64 10 (List.replicate 10 0)), (20, .ints .i64 1 [0])] := by kernel_rfl
theorem zo166 : zeroOf Try.prog 166 = some [(0, .cells 1 [.nilf])] := by kernel_rfl
theorem zo173 : zeroOf Try.prog 173 = some [(0, .ints .i64 1 [0]), (1, .cells 10 [.nils, .nils, .nils, .nils, .nils, .nils, .nils, .nils, .nils, .nils]), (11, .ints .u8 1000 (List.replicate 1000 0)), (1011, .bools 100 (List.replicate 100 false))] := by kernel_rfl
theorem zo157 : zeroOf Try.prog 157 = some [(0, .ints .i64 1 [0]), (1, .bools 10 (List.replicate 10 false)), (11, .ints .u8 100 (List.replicate 100 0))] := by kernel_rfl
theorem eq25 : eqTy Try.prog 25 [(.int .i64, 1), (.int .u8, 100)] = true := by kernel_rfl
theorem eq39 : eqTy Try.prog 39 [(.int .u8, 10)] = true := by kernel_rfl
theorem eq31 : eqTy Try.prog 31 [(.int .i64, 1), (.int .u8, 100)] = true := by kernel_rfl
theorem eq23 : eqTy Try.prog 23 [(.int .u8, 100)] = true := by kernel_rfl
theorem eq29 : eqTy Try.prog 29 [(.int .u8, 100)] = true := by kernel_rfl
theorem eq79 : eqTy Try.prog 79 [(.int .i64, 10)] = true := by kernel_rfl
theorem eq81 : eqTy Try.prog 81 [(.int .i64, 1), (.int .u8, 100), (.int .i64, 1), (.int .u8, 100), (.int .u8, 10)] = true := by kernel_rfl
theorem eq22 : eqTy Try.prog 22 [(.int .u8, 10)] = true := by kernel_rfl
theorem eq124 : eqTy Try.prog 124 [(.int .i64, 1), (.int .u8, 100), (.int .i64, 1), (.int .u8, 100), (.int .u8, 10), (.int .u8, 10)] = true := by kernel_rfl
theorem eq131 : eqTy Try.prog 131 [(.int .u8, 2)] = true := by kernel_rfl
theorem eq90 : eqTy Try.prog 90 [(.int .u8, 10), (.int .u8, 10), (.int .u8, 10)] = true := by kernel_rfl
theorem eq147 : eqTy Try.prog 147 [(.bool, 10)] = true := by kernel_rfl
theorem eq157 : eqTy Try.prog 157 [(.int .i64, 1), (.bool, 10), (.int .u8, 100)] = true := by kernel_rfl
theorem eq121 : eqTy Try.prog 121 [(.int .i64, 10), (.int .i64, 10), (.int .i64, 1)] = true := by kernel_rfl
theorem eq170 : eqTy Try.prog 170 [(.int .u8, 1000)] = true := by kernel_rfl
theorem eq155 : eqTy Try.prog 155 [(.int .u8, 100)] = true := by kernel_rfl
theorem eq171 : eqTy Try.prog 171 [(.bool, 100)] = true := by kernel_rfl
theorem el54 : elOf Try.prog 54 = 2 := by kernel_rfl
theorem el26 : elOf Try.prog 26 = 54 := by kernel_rfl
theorem el45 : elOf Try.prog 45 = 39 := by kernel_rfl
theorem el83 : elOf Try.prog 83 = 5 := by kernel_rfl
theorem el132 : elOf Try.prog 132 = 131 := by kernel_rfl
theorem el96 : elOf Try.prog 96 = 3 := by kernel_rfl
theorem el153 : elOf Try.prog 153 = 157 := by kernel_rfl
theorem ze2 : zeroEl Try.prog 2 = some (.ints .i64 1) := by kernel_rfl
theorem ze54 : zeroEl Try.prog 54 = some (.cells .nils) := by kernel_rfl
theorem ze39 : zeroEl Try.prog 39 = some (.ints .u8 10) := by kernel_rfl
theorem ze5 : zeroEl Try.prog 5 = some (.ints .u8 1) := by kernel_rfl
theorem ze131 : zeroEl Try.prog 131 = some (.ints .u8 2) := by kernel_rfl
theorem ze3 : zeroEl Try.prog 3 = some (.ints .i64 1) := by kernel_rfl
-- zeroEl 157: none
theorem ae39 : arrEl Try.prog 39 = 5 := by kernel_rfl
theorem ae23 : arrEl Try.prog 23 = 22 := by kernel_rfl
theorem ae29 : arrEl Try.prog 29 = 22 := by kernel_rfl
theorem ae79 : arrEl Try.prog 79 = 2 := by kernel_rfl
theorem ae22 : arrEl Try.prog 22 = 5 := by kernel_rfl
theorem ae108 : arrEl Try.prog 108 = 45 := by kernel_rfl
theorem ae131 : arrEl Try.prog 131 = 5 := by kernel_rfl
theorem ae147 : arrEl Try.prog 147 = 4 := by kernel_rfl
theorem ae170 : arrEl Try.prog 170 = 155 := by kernel_rfl
theorem ae155 : arrEl Try.prog 155 = 39 := by kernel_rfl
theorem ae171 : arrEl Try.prog 171 = 147 := by kernel_rfl
theorem fok3 : funOk Try.f3 = true := by kernel_rfl
theorem fok4 : funOk Try.f4 = true := by kernel_rfl
theorem fok5 : funOk Try.f5 = true := by kernel_rfl
theorem fok6 : funOk Try.f6 = true := by kernel_rfl
theorem fok7 : funOk Try.f7 = true := by kernel_rfl
theorem fok8 : funOk Try.f8 = true := by kernel_rfl
theorem fok9 : funOk Try.f9 = true := by kernel_rfl
theorem fok10 : funOk Try.f10 = true := by kernel_rfl
theorem fok11 : funOk Try.f11 = true := by kernel_rfl
theorem fok12 : funOk Try.f12 = true := by kernel_rfl
theorem fok13 : funOk Try.f13 = true := by kernel_rfl
theorem fok14 : funOk Try.f14 = true := by kernel_rfl
theorem fok15 : funOk Try.f15 = true := by kernel_rfl
theorem fok16 : funOk Try.f16 = true := by kernel_rfl
theorem fok17 : funOk Try.f17 = true := by kernel_rfl
theorem fok18 : funOk Try.f18 = true := by kernel_rfl
theorem fok19 : funOk Try.f19 = true := by kernel_rfl
theorem fok20 : funOk Try.f20 = true := by kernel_rfl
theorem fok21 : funOk Try.f21 = true := by kernel_rfl
theorem fok22 : funOk Try.f22 = true := by kernel_rfl
theorem fok23 : funOk Try.f23 = true := by kernel_rfl
theorem fok24 : funOk Try.f24 = true := by kernel_rfl
theorem fok25 : funOk Try.f25 = true := by kernel_rfl
theorem fok26 : funOk Try.f26 = true := by kernel_rfl
theorem fok27 : funOk Try.f27 = true := by kernel_rfl
theorem fok28 : funOk Try.f28 = true := by kernel_rfl
theorem fok29 : funOk Try.f29 = true := by kernel_rfl
theorem fok30 : funOk Try.f30 = true := by kernel_rfl
theorem fok31 : funOk Try.f31 = true := by kernel_rfl
theorem fok32 : funOk Try.f32 = true := by kernel_rfl
theorem fok33 : funOk Try.f33 = true := by kernel_rfl
theorem fok34 : funOk Try.f34 = true := by kernel_rfl
theorem fok35 : funOk Try.f35 = true := by kernel_rfl
theorem fok36 : funOk Try.f36 = true := by kernel_rfl
theorem fok37 : funOk Try.f37 = true := by kernel_rfl
theorem fok38 : funOk Try.f38 = true := by kernel_rfl
theorem fok39 : funOk Try.f39 = true := by kernel_rfl
theorem fok40 : funOk Try.f40 = true := by kernel_rfl
theorem fok41 : funOk Try.f41 = true := by kernel_rfl
theorem fok42 : funOk Try.f42 = true := by kernel_rfl
theorem fok43 : funOk Try.f43 = true := by kernel_rfl
theorem fok44 : funOk Try.f44 = true := by kernel_rfl
theorem fok45 : funOk Try.f45 = true := by kernel_rfl
theorem fok46 : funOk Try.f46 = true := by kernel_rfl
theorem fok47 : funOk Try.f47 = true := by kernel_rfl
theorem fok48 : funOk Try.f48 = true := by kernel_rfl
theorem fok49 : funOk Try.f49 = true := by kernel_rfl
theorem fok50 : funOk Try.f50 = true := by kernel_rfl
theorem fok51 : funOk Try.f51 = true := by kernel_rfl
theorem fok52 : funOk Try.f52 = true := by kernel_rfl
theorem fok53 : funOk Try.f53 = true := by kernel_rfl
theorem fok54 : funOk Try.f54 = true := by kernel_rfl
theorem fok55 : funOk Try.f55 = true := by kernel_rfl
theorem fok56 : funOk Try.f56 = true := by kernel_rfl
theorem fok57 : funOk Try.f57 = true := by kernel_rfl
theorem fok58 : funOk Try.f58 = true := by kernel_rfl
theorem fok59 : funOk Try.f59 = true := by kernel_rfl
theorem fok60 : funOk Try.f60 = true := by kernel_rfl
theorem fok61 : funOk Try.f61 = true := by kernel_rfl
theorem fok62 : funOk Try.f62 = true := by kernel_rfl
theorem fok63 : funOk Try.f63 = true := by kernel_rfl
theorem fok64 : funOk Try.f64 = true := by kernel_rfl
theorem fok65 : funOk Try.f65 = true := by kernel_rfl
theorem fok66 : funOk Try.f66 = true := by kernel_rfl
theorem fok67 : funOk Try.f67 = true := by kernel_rfl
theorem fok68 : funOk Try.f68 = true := by kernel_rfl
theorem fok69 : funOk Try.f69 = true := by kernel_rfl
theorem fok70 : funOk Try.f70 = true := by kernel_rfl
theorem fok71 : funOk Try.f71 = true := by kernel_rfl
theorem fok72 : funOk Try.f72 = true := by kernel_rfl
theorem fok73 : funOk Try.f73 = true := by kernel_rfl
theorem fok74 : funOk Try.f74 = true := by kernel_rfl
theorem fok75 : funOk Try.f75 = true := by kernel_rfl
theorem fok76 : funOk Try.f76 = true := by kernel_rfl
theorem fok77 : funOk Try.f77 = true := by kernel_rfl
theorem fok78 : funOk Try.f78 = true := by kernel_rfl
theorem fok79 : funOk Try.f79 = true := by kernel_rfl
theorem fok80 : funOk Try.f80 = true := by kernel_rfl
theorem fok81 : funOk Try.f81 = true := by kernel_rfl
theorem fok82 : funOk Try.f82 = true := by kernel_rfl
theorem fok83 : funOk Try.f83 = true := by kernel_rfl
theorem fok84 : funOk Try.f84 = true := by kernel_rfl
theorem fok85 : funOk Try.f85 = true := by kernel_rfl
theorem fok86 : funOk Try.f86 = true := by kernel_rfl
theorem fok87 : funOk Try.f87 = true := by kernel_rfl
theorem fok88 : funOk Try.f88 = true := by kernel_rfl
theorem fok89 : funOk Try.f89 = true := by kernel_rfl
theorem fok90 : funOk Try.f90 = true := by kernel_rfl
theorem fok91 : funOk Try.f91 = true := by kernel_rfl
theorem fok92 : funOk Try.f92 = true := by kernel_rfl
theorem fok93 : funOk Try.f93 = true := by kernel_rfl
theorem fok94 : funOk Try.f94 = true := by kernel_rfl
theorem fok95 : funOk Try.f95 = true := by kernel_rfl
theorem fok96 : funOk Try.f96 = true := by kernel_rfl
theorem fok97 : funOk Try.f97 = true := by kernel_rfl
theorem fok98 : funOk Try.f98 = true := by kernel_rfl
theorem fok99 : funOk Try.f99 = true := by kernel_rfl
theorem fok100 : funOk Try.f100 = true := by kernel_rfl
theorem fok101 : funOk Try.f101 = true := by kernel_rfl
theorem fok102 : funOk Try.f102 = true := by kernel_rfl
theorem fok103 : funOk Try.f103 = true := by kernel_rfl
theorem fok104 : funOk Try.f104 = true := by kernel_rfl
theorem fok105 : funOk Try.f105 = true := by kernel_rfl
theorem fok106 : funOk Try.f106 = true := by kernel_rfl
theorem fok107 : funOk Try.f107 = true := by kernel_rfl
theorem fok108 : funOk Try.f108 = true := by kernel_rfl
theorem fok109 : funOk Try.f109 = true := by kernel_rfl
theorem fok110 : funOk Try.f110 = true := by kernel_rfl
theorem fok111 : funOk Try.f111 = true := by kernel_rfl
theorem fok112 : funOk Try.f112 = true := by kernel_rfl
theorem fok113 : funOk Try.f113 = true := by kernel_rfl
theorem fok114 : funOk Try.f114 = true := by kernel_rfl
theorem fok115 : funOk Try.f115 = true := by kernel_rfl
theorem fok116 : funOk Try.f116 = true := by kernel_rfl
theorem fok117 : funOk Try.f117 = true := by kernel_rfl
theorem fok118 : funOk Try.f118 = true := by kernel_rfl
theorem fok119 : funOk Try.f119 = true := by kernel_rfl
theorem fok120 : funOk Try.f120 = true := by kernel_rfl
theorem fok121 : funOk Try.f121 = true := by kernel_rfl
theorem fok122 : funOk Try.f122 = true := by kernel_rfl
theorem fok123 : funOk Try.f123 = true := by kernel_rfl
theorem fok124 : funOk Try.f124 = true := by kernel_rfl
theorem fok125 : funOk Try.f125 = true := by kernel_rfl
theorem fok126 : funOk Try.f126 = true := by kernel_rfl
theorem fok127 : funOk Try.f127 = true := by kernel_rfl
theorem fok128 : funOk Try.f128 = true := by kernel_rfl
theorem fok129 : funOk Try.f129 = true := by kernel_rfl
theorem fok130 : funOk Try.f130 = true := by kernel_rfl
theorem fok131 : funOk Try.f131 = true := by kernel_rfl
theorem fok132 : funOk Try.f132 = true := by kernel_rfl
theorem fok133 : funOk Try.f133 = true := by kernel_rfl
theorem fok134 : funOk Try.f134 = true := by kernel_rfl
theorem fok135 : funOk Try.f135 = true := by kernel_rfl
theorem fok136 : funOk Try.f136 = true := by kernel_rfl
theorem fok137 : funOk Try.f137 = true := by kernel_rfl
theorem fok138 : funOk Try.f138 = true := by kernel_rfl
theorem fok139 : funOk Try.f139 = true := by kernel_rfl
theorem fok140 : funOk Try.f140 = true := by kernel_rfl
theorem fok141 : funOk Try.f141 = true := by kernel_rfl
theorem fok142 : funOk Try.f142 = true := by kernel_rfl
theorem fok143 : funOk Try.f143 = true := by kernel_rfl
theorem fok144 : funOk Try.f144 = true := by kernel_rfl
theorem fok145 : funOk Try.f145 = true := by kernel_rfl
theorem fok146 : funOk Try.f146 = true := by kernel_rfl
theorem fok147 : funOk Try.f147 = true := by kernel_rfl
theorem fok148 : funOk Try.f148 = true := by kernel_rfl
theorem fok149 : funOk Try.f149 = true := by kernel_rfl
theorem fok150 : funOk Try.f150 = true := by kernel_rfl
theorem fok151 : funOk Try.f151 = true := by kernel_rfl
theorem fok152 : funOk Try.f152 = true := by kernel_rfl
theorem fok153 : funOk Try.f153 = true := by kernel_rfl
theorem fok154 : funOk Try.f154 = true := by kernel_rfl
theorem fok155 : funOk Try.f155 = true := by kernel_rfl
theorem fok156 : funOk Try.f156 = true := by kernel_rfl
theorem fok157 : funOk Try.f157 = true := by kernel_rfl
theorem fok159 : funOk Try.f159 = true := by kernel_rfl
theorem fok160 : funOk Try.f160 = true := by kernel_rfl
theorem fok161 : funOk Try.f161 = true := by kernel_rfl
theorem fok162 : funOk Try.f162 = true := by kernel_rfl
theorem fok163 : funOk Try.f163 = true := by kernel_rfl
theorem fok164 : funOk Try.f164 = true := by kernel_rfl
theorem fok165 : funOk Try.f165 = true := by kernel_rfl
theorem fok166 : funOk Try.f166 = true := by kernel_rfl
theorem fok167 : funOk Try.f167 = true := by kernel_rfl
theorem fok168 : funOk Try.f168 = true := by kernel_rfl
theorem fok169 : funOk Try.f169 = true := by kernel_rfl
theorem fok170 : funOk Try.f170 = true := by kernel_rfl

/-- The facts as one name. -/
def absF := (And.intro (And.intro (And.intro (And.intro (And.intro (And.intro (And.intro @ty25 @sz25) (And.intro @in25 (And.intro @ty2 @sz2))) (And.intro (And.intro @in2 (And.intro @ty3 @sz3)) (And.intro @in3 (And.intro @ty39 @sz39)))) (And.intro (And.intro (And.intro @in39 @ty31) (And.intro @sz31 (And.intro @in31 @ty54))) (And.intro (And.intro @sz54 (And.intro @in54 @ty4)) (And.intro @sz4 (And.intro @in4 @ty26))))) (And.intro (And.intro (And.intro (And.intro @sz26 @in26) (And.intro @ty23 (And.intro @sz23 @in23))) (And.intro (And.intro @ty29 (And.intro @sz29 @in29)) (And.intro @ty45 (And.intro @sz45 @in45)))) (And.intro (And.intro (And.intro @ty5 (And.intro @sz5 @in5)) (And.intro @ty79 (And.intro @sz79 @in79))) (And.intro (And.intro @ty81 (And.intro @sz81 @in81)) (And.intro @ty22 (And.intro @sz22 @in22)))))) (And.intro (And.intro (And.intro (And.intro (And.intro @ty82 @sz82) (And.intro @in82 (And.intro @ty83 @sz83))) (And.intro (And.intro @in83 (And.intro @ty96 @sz96)) (And.intro @in96 (And.intro @ty106 @sz106)))) (And.intro (And.intro (And.intro @in106 (And.intro @ty108 @sz108)) (And.intro @in108 (And.intro @ty110 @sz110))) (And.intro (And.intro @in110 (And.intro @ty124 @sz124)) (And.intro @in124 (And.intro @ty125 @sz125))))) (And.intro (And.intro (And.intro (And.intro @in125 @ty131) (And.intro @sz131 (And.intro @in131 @ty132))) (And.intro (And.intro @sz132 (And.intro @in132 @ty90)) (And.intro @sz90 (And.intro @in90 @ty147)))) (And.intro (And.intro (And.intro @sz147 (And.intro @in147 @ty150)) (And.intro @sz150 (And.intro @in150 @ty153))) (And.intro (And.intro @sz153 (And.intro @in153 @ty157)) (And.intro @sz157 (And.intro @in157 @ty121))))))) (And.intro (And.intro (And.intro (And.intro (And.intro (And.intro @sz121 @in121) (And.intro @ty77 (And.intro @sz77 @in77))) (And.intro (And.intro @ty166 (And.intro @sz166 @in166)) (And.intro @ty151 (And.intro @sz151 @in151)))) (And.intro (And.intro (And.intro @ty173 @sz173) (And.intro @in173 (And.intro @ty170 @sz170))) (And.intro (And.intro @in170 (And.intro @ty155 @sz155)) (And.intro @in155 (And.intro @ty171 @sz171))))) (And.intro (And.intro (And.intro (And.intro @in171 @ty137) (And.intro @sz137 (And.intro @in137 @zo39))) (And.intro (And.intro @zo31 (And.intro @zo26 @zo2)) (And.intro @zo79 (And.intro @zo81 @zo82)))) (And.intro (And.intro (And.intro @zo106 (And.intro @zo108 @zo45)) (And.intro @zo3 (And.intro @zo110 @zo29))) (And.intro (And.intro @zo124 (And.intro @zo125 @zo131)) (And.intro @zo90 (And.intro @zo147 @zo150)))))) (And.intro (And.intro (And.intro (And.intro (And.intro @zo22 @zo121) (And.intro @zo166 (And.intro @zo173 @zo157))) (And.intro (And.intro @eq25 (And.intro @eq39 @eq31)) (And.intro @eq23 (And.intro @eq29 @eq79)))) (And.intro (And.intro (And.intro @eq81 (And.intro @eq22 @eq124)) (And.intro @eq131 (And.intro @eq90 @eq147))) (And.intro (And.intro @eq157 (And.intro @eq121 @eq170)) (And.intro @eq155 (And.intro @eq171 @el54))))) (And.intro (And.intro (And.intro (And.intro @el26 @el45) (And.intro @el83 (And.intro @el132 @el96))) (And.intro (And.intro @el153 (And.intro @ze2 @ze54)) (And.intro @ze39 (And.intro @ze5 @ze131)))) (And.intro (And.intro (And.intro @ze3 (And.intro @ae39 @ae23)) (And.intro @ae29 (And.intro @ae79 @ae22))) (And.intro (And.intro @ae108 (And.intro @ae131 @ae147)) (And.intro @ae170 (And.intro @ae155 @ae171))))))))

end Go.Proofs.Ytgblnnodoabdeaa
