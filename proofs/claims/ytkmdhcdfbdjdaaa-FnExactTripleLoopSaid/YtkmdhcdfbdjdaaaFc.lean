/-
Facts of the loaded program that the abstract walk asks: the shapes of its types, and that its functions are in form. Printed by a program of this session (Facts.lean).
-/
import Derived.Test.YtkmdhcdfbdjdaaaAbsQ
import Derived.Test.YtkmdhcdfbdjdaaaRows
namespace Go.Proofs.Ytkmdhcdfbdjdaaa
open Go Go.Abs
set_option linter.defProp false
set_option maxRecDepth 100000

theorem mix : Try.prog.follows .mixedOrders = true := by kernel_rfl
theorem ty25 : tyOf Try.prog 25 = .st [(0, 1), (1, 100)] 101 := by kernel_rfl
theorem sz25 : szOf Try.prog 25 = 101 := by kernel_rfl
theorem in25 : (Try.prog.info? 25).isSome = true := by kernel_rfl
theorem ty2 : tyOf Try.prog 2 = .int .i64 := by kernel_rfl
theorem sz2 : szOf Try.prog 2 = 1 := by kernel_rfl
theorem in2 : (Try.prog.info? 2).isSome = true := by kernel_rfl
theorem ty3 : tyOf Try.prog 3 = .int .i64 := by kernel_rfl
theorem sz3 : szOf Try.prog 3 = 1 := by kernel_rfl
theorem in3 : (Try.prog.info? 3).isSome = true := by kernel_rfl
theorem ty31 : tyOf Try.prog 31 = .st [(0, 1), (1, 100)] 101 := by kernel_rfl
theorem sz31 : szOf Try.prog 31 = 101 := by kernel_rfl
theorem in31 : (Try.prog.info? 31).isSome = true := by kernel_rfl
theorem ty47 : tyOf Try.prog 47 = .arr 10 1 10 := by kernel_rfl
theorem sz47 : szOf Try.prog 47 = 10 := by kernel_rfl
theorem in47 : (Try.prog.info? 47).isSome = true := by kernel_rfl
theorem ty57 : tyOf Try.prog 57 = .sl 1 8 := by kernel_rfl
theorem sz57 : szOf Try.prog 57 = 1 := by kernel_rfl
theorem in57 : (Try.prog.info? 57).isSome = true := by kernel_rfl
theorem ty23 : tyOf Try.prog 23 = .arr 10 10 100 := by kernel_rfl
theorem sz23 : szOf Try.prog 23 = 100 := by kernel_rfl
theorem in23 : (Try.prog.info? 23).isSome = true := by kernel_rfl
theorem ty29 : tyOf Try.prog 29 = .arr 10 10 100 := by kernel_rfl
theorem sz29 : szOf Try.prog 29 = 100 := by kernel_rfl
theorem in29 : (Try.prog.info? 29).isSome = true := by kernel_rfl
theorem ty26 : tyOf Try.prog 26 = .sl 10 10 := by kernel_rfl
theorem sz26 : szOf Try.prog 26 = 1 := by kernel_rfl
theorem in26 : (Try.prog.info? 26).isSome = true := by kernel_rfl
theorem ty67 : tyOf Try.prog 67 = .sc := by kernel_rfl
theorem sz67 : szOf Try.prog 67 = 1 := by kernel_rfl
theorem in67 : (Try.prog.info? 67).isSome = true := by kernel_rfl
theorem ty5 : tyOf Try.prog 5 = .int .u8 := by kernel_rfl
theorem sz5 : szOf Try.prog 5 = 1 := by kernel_rfl
theorem in5 : (Try.prog.info? 5).isSome = true := by kernel_rfl
theorem ty36 : tyOf Try.prog 36 = .sl 1 24 := by kernel_rfl
theorem sz36 : szOf Try.prog 36 = 1 := by kernel_rfl
theorem in36 : (Try.prog.info? 36).isSome = true := by kernel_rfl
theorem ty74 : tyOf Try.prog 74 = .arr 9 9 81 := by kernel_rfl
theorem sz74 : szOf Try.prog 74 = 81 := by kernel_rfl
theorem in74 : (Try.prog.info? 74).isSome = true := by kernel_rfl
theorem ty73 : tyOf Try.prog 73 = .arr 9 1 9 := by kernel_rfl
theorem sz73 : szOf Try.prog 73 = 9 := by kernel_rfl
theorem in73 : (Try.prog.info? 73).isSome = true := by kernel_rfl
theorem ty22 : tyOf Try.prog 22 = .arr 10 1 10 := by kernel_rfl
theorem sz22 : szOf Try.prog 22 = 10 := by kernel_rfl
theorem in22 : (Try.prog.info? 22).isSome = true := by kernel_rfl
theorem ty78 : tyOf Try.prog 78 = .arr 9 9 81 := by kernel_rfl
theorem sz78 : szOf Try.prog 78 = 81 := by kernel_rfl
theorem in78 : (Try.prog.info? 78).isSome = true := by kernel_rfl
theorem ty69 : tyOf Try.prog 69 = .sl 1 1 := by kernel_rfl
theorem sz69 : szOf Try.prog 69 = 1 := by kernel_rfl
theorem in69 : (Try.prog.info? 69).isSome = true := by kernel_rfl
theorem ty96 : tyOf Try.prog 96 = .arr 10 1 10 := by kernel_rfl
theorem sz96 : szOf Try.prog 96 = 10 := by kernel_rfl
theorem in96 : (Try.prog.info? 96).isSome = true := by kernel_rfl
theorem ty98 : tyOf Try.prog 98 = .st [(0, 101), (101, 101), (202, 10)] 212 := by kernel_rfl
theorem sz98 : szOf Try.prog 98 = 212 := by kernel_rfl
theorem in98 : (Try.prog.info? 98).isSome = true := by kernel_rfl
theorem ty99 : tyOf Try.prog 99 = .sc := by kernel_rfl
theorem sz99 : szOf Try.prog 99 = 1 := by kernel_rfl
theorem in99 : (Try.prog.info? 99).isSome = true := by kernel_rfl
theorem ty112 : tyOf Try.prog 112 = .sl 1 8 := by kernel_rfl
theorem sz112 : szOf Try.prog 112 = 1 := by kernel_rfl
theorem in112 : (Try.prog.info? 112).isSome = true := by kernel_rfl
theorem ty119 : tyOf Try.prog 119 = .arr 10 1 10 := by kernel_rfl
theorem sz119 : szOf Try.prog 119 = 10 := by kernel_rfl
theorem in119 : (Try.prog.info? 119).isSome = true := by kernel_rfl
theorem ty68 : tyOf Try.prog 68 = .int .i64 := by kernel_rfl
theorem sz68 : szOf Try.prog 68 = 1 := by kernel_rfl
theorem in68 : (Try.prog.info? 68).isSome = true := by kernel_rfl
theorem ty124 : tyOf Try.prog 124 = .arr 9 9 81 := by kernel_rfl
theorem sz124 : szOf Try.prog 124 = 81 := by kernel_rfl
theorem in124 : (Try.prog.info? 124).isSome = true := by kernel_rfl
theorem ty123 : tyOf Try.prog 123 = .arr 9 1 9 := by kernel_rfl
theorem sz123 : szOf Try.prog 123 = 9 := by kernel_rfl
theorem in123 : (Try.prog.info? 123).isSome = true := by kernel_rfl
theorem ty4 : tyOf Try.prog 4 = .bool := by kernel_rfl
theorem sz4 : szOf Try.prog 4 = 1 := by kernel_rfl
theorem in4 : (Try.prog.info? 4).isSome = true := by kernel_rfl
theorem ty77 : tyOf Try.prog 77 = .arr 9 1 9 := by kernel_rfl
theorem sz77 : szOf Try.prog 77 = 9 := by kernel_rfl
theorem in77 : (Try.prog.info? 77).isSome = true := by kernel_rfl
theorem ty87 : tyOf Try.prog 87 = .st [(0, 10), (10, 10), (20, 10)] 30 := by kernel_rfl
theorem sz87 : szOf Try.prog 87 = 30 := by kernel_rfl
theorem in87 : (Try.prog.info? 87).isSome = true := by kernel_rfl
theorem ty142 : tyOf Try.prog 142 = .st [(0, 101), (101, 101), (202, 10), (212, 10)] 222 := by kernel_rfl
theorem sz142 : szOf Try.prog 142 = 222 := by kernel_rfl
theorem in142 : (Try.prog.info? 142).isSome = true := by kernel_rfl
theorem ty143 : tyOf Try.prog 143 = .sc := by kernel_rfl
theorem sz143 : szOf Try.prog 143 = 1 := by kernel_rfl
theorem in143 : (Try.prog.info? 143).isSome = true := by kernel_rfl
theorem ty147 : tyOf Try.prog 147 = .arr 2 1 2 := by kernel_rfl
theorem sz147 : szOf Try.prog 147 = 2 := by kernel_rfl
theorem in147 : (Try.prog.info? 147).isSome = true := by kernel_rfl
theorem ty148 : tyOf Try.prog 148 = .sl 2 2 := by kernel_rfl
theorem sz148 : szOf Try.prog 148 = 1 := by kernel_rfl
theorem in148 : (Try.prog.info? 148).isSome = true := by kernel_rfl
theorem ty157 : tyOf Try.prog 157 = .sc := by kernel_rfl
theorem sz157 : szOf Try.prog 157 = 1 := by kernel_rfl
theorem in157 : (Try.prog.info? 157).isSome = true := by kernel_rfl
theorem ty139 : tyOf Try.prog 139 = .st [(0, 10), (10, 10), (20, 1)] 21 := by kernel_rfl
theorem sz139 : szOf Try.prog 139 = 21 := by kernel_rfl
theorem in139 : (Try.prog.info? 139).isSome = true := by kernel_rfl
theorem ty94 : tyOf Try.prog 94 = .sc := by kernel_rfl
theorem sz94 : szOf Try.prog 94 = 1 := by kernel_rfl
theorem in94 : (Try.prog.info? 94).isSome = true := by kernel_rfl
theorem ty132 : tyOf Try.prog 132 = .sc := by kernel_rfl
theorem sz132 : szOf Try.prog 132 = 1 := by kernel_rfl
theorem in132 : (Try.prog.info? 132).isSome = true := by kernel_rfl
theorem zo31 : zeroOf Try.prog 31 = some [(0, .ints .i64 1 [0]), (1, .ints .u8 100 (List.replicate 100 0))] := by kernel_rfl
theorem zo47 : zeroOf Try.prog 47 = some [(0, .ints .u8 10 (List.replicate 10 0))] := by kernel_rfl
theorem zo26 : zeroOf Try.prog 26 = some [(0, .cells 1 [.nils])] := by kernel_rfl
theorem zo67 : zeroOf Try.prog 67 = some [(0, .cells 1 [.nilf])] := by kernel_rfl
theorem zo74 : zeroOf Try.prog 74 = some [(0, .ints .i64 81 (List.replicate 81 0))] := by kernel_rfl
theorem zo78 : zeroOf Try.prog 78 = some [(0, .ints .u8 81 (List.replicate 81 0))] := by kernel_rfl
theorem zo2 : zeroOf Try.prog 2 = some [(0, .ints .i64 1 [0])] := by kernel_rfl
theorem zo96 : zeroOf Try.prog 96 = some [(0, .ints .i64 10 (List.replicate 10 0))] := by kernel_rfl
theorem zo98 : zeroOf Try.prog 98 = some [(0, .ints .i64 1 [0]), (1, .ints .u8 100 (List.replicate 100 0)), (101, .ints .i64 1 [0]), (102, .ints .u8 100 (List.replicate 100 0)), (202, .ints .u8 10 (List.replicate 10 0))] := by kernel_rfl
theorem zo36 : zeroOf Try.prog 36 = some [(0, .cells 1 [.nils])] := by kernel_rfl
theorem zo99 : zeroOf Try.prog 99 = some [(0, .cells 1 [.nilf])] := by kernel_rfl
theorem zo119 : zeroOf Try.prog 119 = some [(0, .bools 10 (List.replicate 10 false))] := by kernel_rfl
theorem zo29 : zeroOf Try.prog 29 = some [(0, .ints .u8 100 (List.replicate 100 0))] := by kernel_rfl
theorem zo124 : zeroOf Try.prog 124 = some [(0, .bools 81 (List.replicate 81 false))] := by kernel_rfl
theorem zo87 : zeroOf Try.prog 87 = some [(0, .ints .u8 10 (List.replicate 10 0)), (10, .ints .u8 10 (List.replicate 10 0)), (20, .ints .u8 10 (List.replicate 10 0))] := by kernel_rfl
theorem zo142 : zeroOf Try.prog 142 = some [(0, .ints .i64 1 [0]), (1, .ints .u8 100 (List.replicate 100 0)), (101, .ints .i64 1 [0]), (102, .ints .u8 100 (List.replicate 100 0)), (202, .ints .u8 10 (List.replicate 10 0)), (212, .ints .u8 10 (List.replicate 10 0))] := by kernel_rfl
theorem zo143 : zeroOf Try.prog 143 = some [(0, .cells 1 [.nilf])] := by kernel_rfl
theorem zo147 : zeroOf Try.prog 147 = some [(0, .ints .u8 2 (List.replicate 2 0))] := by kernel_rfl
theorem zo22 : zeroOf Try.prog 22 = some [(0, .ints .u8 10 (List.replicate 10 0))] := by kernel_rfl
theorem zo157 : zeroOf Try.prog 157 = some [(0, .cells 1 [.nilf])] := by kernel_rfl
theorem zo139 : zeroOf Try.prog 139 = some [(0, .ints .i64 10 (List.replicate 10 0)), (10, .ints .i64 10 (List.replicate 10 0)), (20, .ints .i64 1 [0])] := by kernel_rfl
theorem eq25 : eqTy Try.prog 25 [(.int .i64, 1), (.int .u8, 100)] = true := by kernel_rfl
theorem eq31 : eqTy Try.prog 31 [(.int .i64, 1), (.int .u8, 100)] = true := by kernel_rfl
theorem eq47 : eqTy Try.prog 47 [(.int .u8, 10)] = true := by kernel_rfl
theorem eq23 : eqTy Try.prog 23 [(.int .u8, 100)] = true := by kernel_rfl
theorem eq29 : eqTy Try.prog 29 [(.int .u8, 100)] = true := by kernel_rfl
theorem eq74 : eqTy Try.prog 74 [(.int .i64, 81)] = true := by kernel_rfl
theorem eq73 : eqTy Try.prog 73 [(.int .i64, 9)] = true := by kernel_rfl
theorem eq22 : eqTy Try.prog 22 [(.int .u8, 10)] = true := by kernel_rfl
theorem eq78 : eqTy Try.prog 78 [(.int .u8, 81)] = true := by kernel_rfl
theorem eq96 : eqTy Try.prog 96 [(.int .i64, 10)] = true := by kernel_rfl
theorem eq98 : eqTy Try.prog 98 [(.int .i64, 1), (.int .u8, 100), (.int .i64, 1), (.int .u8, 100), (.int .u8, 10)] = true := by kernel_rfl
theorem eq119 : eqTy Try.prog 119 [(.bool, 10)] = true := by kernel_rfl
theorem eq124 : eqTy Try.prog 124 [(.bool, 81)] = true := by kernel_rfl
theorem eq123 : eqTy Try.prog 123 [(.bool, 9)] = true := by kernel_rfl
theorem eq77 : eqTy Try.prog 77 [(.int .u8, 9)] = true := by kernel_rfl
theorem eq87 : eqTy Try.prog 87 [(.int .u8, 10), (.int .u8, 10), (.int .u8, 10)] = true := by kernel_rfl
theorem eq142 : eqTy Try.prog 142 [(.int .i64, 1), (.int .u8, 100), (.int .i64, 1), (.int .u8, 100), (.int .u8, 10), (.int .u8, 10)] = true := by kernel_rfl
theorem eq147 : eqTy Try.prog 147 [(.int .u8, 2)] = true := by kernel_rfl
theorem eq139 : eqTy Try.prog 139 [(.int .i64, 10), (.int .i64, 10), (.int .i64, 1)] = true := by kernel_rfl
theorem el26 : elOf Try.prog 26 = 47 := by kernel_rfl
theorem el36 : elOf Try.prog 36 = 57 := by kernel_rfl
theorem el57 : elOf Try.prog 57 = 2 := by kernel_rfl
theorem el69 : elOf Try.prog 69 = 5 := by kernel_rfl
theorem el148 : elOf Try.prog 148 = 147 := by kernel_rfl
theorem el112 : elOf Try.prog 112 = 3 := by kernel_rfl
theorem ze47 : zeroEl Try.prog 47 = some (.ints .u8 10) := by kernel_rfl
theorem ze57 : zeroEl Try.prog 57 = some (.cells .nils) := by kernel_rfl
theorem ze2 : zeroEl Try.prog 2 = some (.ints .i64 1) := by kernel_rfl
theorem ze5 : zeroEl Try.prog 5 = some (.ints .u8 1) := by kernel_rfl
theorem ze147 : zeroEl Try.prog 147 = some (.ints .u8 2) := by kernel_rfl
theorem ze3 : zeroEl Try.prog 3 = some (.ints .i64 1) := by kernel_rfl
theorem ae47 : arrEl Try.prog 47 = 5 := by kernel_rfl
theorem ae23 : arrEl Try.prog 23 = 22 := by kernel_rfl
theorem ae29 : arrEl Try.prog 29 = 22 := by kernel_rfl
theorem ae74 : arrEl Try.prog 74 = 73 := by kernel_rfl
theorem ae73 : arrEl Try.prog 73 = 2 := by kernel_rfl
theorem ae22 : arrEl Try.prog 22 = 5 := by kernel_rfl
theorem ae78 : arrEl Try.prog 78 = 77 := by kernel_rfl
theorem ae96 : arrEl Try.prog 96 = 2 := by kernel_rfl
theorem ae119 : arrEl Try.prog 119 = 4 := by kernel_rfl
theorem ae124 : arrEl Try.prog 124 = 123 := by kernel_rfl
theorem ae123 : arrEl Try.prog 123 = 4 := by kernel_rfl
theorem ae77 : arrEl Try.prog 77 = 5 := by kernel_rfl
theorem ae147 : arrEl Try.prog 147 = 5 := by kernel_rfl
theorem fok3 : funOk Try.f3 = true := by kernel_rfl
theorem fok4 : funOk Try.f4 = true := by kernel_rfl
theorem fok5 : funOk Try.f5 = true := by kernel_rfl
theorem fok6 : funOk Try.f6 = true := by kernel_rfl
theorem fok7 : funOk Try.f7 = true := by kernel_rfl
theorem fok8 : funOk Try.f8 = true := by kernel_rfl
theorem fok9 : funOk Try.f9 = true := by kernel_rfl
theorem fok10 : funOk Try.f10 = true := by kernel_rfl
theorem fok11 : funOk Try.f11 = true := by kernel_rfl
theorem fok12 : funOk Try.f12 = true := by kernel_rfl
theorem fok13 : funOk Try.f13 = true := by kernel_rfl
theorem fok14 : funOk Try.f14 = true := by kernel_rfl
theorem fok15 : funOk Try.f15 = true := by kernel_rfl
theorem fok16 : funOk Try.f16 = true := by kernel_rfl
theorem fok17 : funOk Try.f17 = true := by kernel_rfl
theorem fok18 : funOk Try.f18 = true := by kernel_rfl
theorem fok19 : funOk Try.f19 = true := by kernel_rfl
theorem fok20 : funOk Try.f20 = true := by kernel_rfl
theorem fok21 : funOk Try.f21 = true := by kernel_rfl
theorem fok22 : funOk Try.f22 = true := by kernel_rfl
theorem fok23 : funOk Try.f23 = true := by kernel_rfl
theorem fok24 : funOk Try.f24 = true := by kernel_rfl
theorem fok25 : funOk Try.f25 = true := by kernel_rfl
theorem fok26 : funOk Try.f26 = true := by kernel_rfl
theorem fok27 : funOk Try.f27 = true := by kernel_rfl
theorem fok28 : funOk Try.f28 = true := by kernel_rfl
theorem fok29 : funOk Try.f29 = true := by kernel_rfl
theorem fok30 : funOk Try.f30 = true := by kernel_rfl
theorem fok31 : funOk Try.f31 = true := by kernel_rfl
theorem fok32 : funOk Try.f32 = true := by kernel_rfl
theorem fok33 : funOk Try.f33 = true := by kernel_rfl
theorem fok34 : funOk Try.f34 = true := by kernel_rfl
theorem fok35 : funOk Try.f35 = true := by kernel_rfl
theorem fok36 : funOk Try.f36 = true := by kernel_rfl
theorem fok37 : funOk Try.f37 = true := by kernel_rfl
theorem fok38 : funOk Try.f38 = true := by kernel_rfl
theorem fok39 : funOk Try.f39 = true := by kernel_rfl
theorem fok40 : funOk Try.f40 = true := by kernel_rfl
theorem fok41 : funOk Try.f41 = true := by kernel_rfl
theorem fok42 : funOk Try.f42 = true := by kernel_rfl
theorem fok43 : funOk Try.f43 = true := by kernel_rfl
theorem fok44 : funOk Try.f44 = true := by kernel_rfl
theorem fok45 : funOk Try.f45 = true := by kernel_rfl
theorem fok46 : funOk Try.f46 = true := by kernel_rfl
theorem fok47 : funOk Try.f47 = true := by kernel_rfl
theorem fok48 : funOk Try.f48 = true := by kernel_rfl
theorem fok49 : funOk Try.f49 = true := by kernel_rfl
theorem fok50 : funOk Try.f50 = true := by kernel_rfl
theorem fok51 : funOk Try.f51 = true := by kernel_rfl
theorem fok52 : funOk Try.f52 = true := by kernel_rfl
theorem fok53 : funOk Try.f53 = true := by kernel_rfl
theorem fok54 : funOk Try.f54 = true := by kernel_rfl
theorem fok55 : funOk Try.f55 = true := by kernel_rfl
theorem fok56 : funOk Try.f56 = true := by kernel_rfl
theorem fok57 : funOk Try.f57 = true := by kernel_rfl
theorem fok58 : funOk Try.f58 = true := by kernel_rfl
theorem fok59 : funOk Try.f59 = true := by kernel_rfl
theorem fok60 : funOk Try.f60 = true := by kernel_rfl
theorem fok61 : funOk Try.f61 = true := by kernel_rfl
theorem fok62 : funOk Try.f62 = true := by kernel_rfl
theorem fok63 : funOk Try.f63 = true := by kernel_rfl
theorem fok64 : funOk Try.f64 = true := by kernel_rfl
theorem fok65 : funOk Try.f65 = true := by kernel_rfl
theorem fok66 : funOk Try.f66 = true := by kernel_rfl
theorem fok67 : funOk Try.f67 = true := by kernel_rfl
theorem fok68 : funOk Try.f68 = true := by kernel_rfl
theorem fok69 : funOk Try.f69 = true := by kernel_rfl
theorem fok70 : funOk Try.f70 = true := by kernel_rfl
theorem fok71 : funOk Try.f71 = true := by kernel_rfl
theorem fok72 : funOk Try.f72 = true := by kernel_rfl
theorem fok73 : funOk Try.f73 = true := by kernel_rfl
theorem fok74 : funOk Try.f74 = true := by kernel_rfl
theorem fok75 : funOk Try.f75 = true := by kernel_rfl
theorem fok76 : funOk Try.f76 = true := by kernel_rfl
theorem fok77 : funOk Try.f77 = true := by kernel_rfl
theorem fok78 : funOk Try.f78 = true := by kernel_rfl
theorem fok79 : funOk Try.f79 = true := by kernel_rfl
theorem fok80 : funOk Try.f80 = true := by kernel_rfl
theorem fok81 : funOk Try.f81 = true := by kernel_rfl
theorem fok82 : funOk Try.f82 = true := by kernel_rfl
theorem fok83 : funOk Try.f83 = true := by kernel_rfl
theorem fok84 : funOk Try.f84 = true := by kernel_rfl
theorem fok85 : funOk Try.f85 = true := by kernel_rfl
theorem fok86 : funOk Try.f86 = true := by kernel_rfl
theorem fok87 : funOk Try.f87 = true := by kernel_rfl
theorem fok88 : funOk Try.f88 = true := by kernel_rfl
theorem fok89 : funOk Try.f89 = true := by kernel_rfl
theorem fok90 : funOk Try.f90 = true := by kernel_rfl
theorem fok91 : funOk Try.f91 = true := by kernel_rfl
theorem fok92 : funOk Try.f92 = true := by kernel_rfl
theorem fok93 : funOk Try.f93 = true := by kernel_rfl
theorem fok94 : funOk Try.f94 = true := by kernel_rfl
theorem fok95 : funOk Try.f95 = true := by kernel_rfl
theorem fok96 : funOk Try.f96 = true := by kernel_rfl
theorem fok97 : funOk Try.f97 = true := by kernel_rfl
theorem fok98 : funOk Try.f98 = true := by kernel_rfl
theorem fok99 : funOk Try.f99 = true := by kernel_rfl
theorem fok100 : funOk Try.f100 = true := by kernel_rfl
theorem fok101 : funOk Try.f101 = true := by kernel_rfl
theorem fok102 : funOk Try.f102 = true := by kernel_rfl
theorem fok103 : funOk Try.f103 = true := by kernel_rfl
theorem fok104 : funOk Try.f104 = true := by kernel_rfl
theorem fok105 : funOk Try.f105 = true := by kernel_rfl
theorem fok106 : funOk Try.f106 = true := by kernel_rfl
theorem fok107 : funOk Try.f107 = true := by kernel_rfl
theorem fok108 : funOk Try.f108 = true := by kernel_rfl
theorem fok109 : funOk Try.f109 = true := by kernel_rfl
theorem fok110 : funOk Try.f110 = true := by kernel_rfl
theorem fok111 : funOk Try.f111 = true := by kernel_rfl
theorem fok112 : funOk Try.f112 = true := by kernel_rfl
theorem fok113 : funOk Try.f113 = true := by kernel_rfl
theorem fok114 : funOk Try.f114 = true := by kernel_rfl
theorem fok115 : funOk Try.f115 = true := by kernel_rfl
theorem fok116 : funOk Try.f116 = true := by kernel_rfl
theorem fok117 : funOk Try.f117 = true := by kernel_rfl
theorem fok118 : funOk Try.f118 = true := by kernel_rfl
theorem fok119 : funOk Try.f119 = true := by kernel_rfl
theorem fok120 : funOk Try.f120 = true := by kernel_rfl
theorem fok121 : funOk Try.f121 = true := by kernel_rfl
theorem fok122 : funOk Try.f122 = true := by kernel_rfl
theorem fok123 : funOk Try.f123 = true := by kernel_rfl
theorem fok124 : funOk Try.f124 = true := by kernel_rfl
theorem fok125 : funOk Try.f125 = true := by kernel_rfl
theorem fok126 : funOk Try.f126 = true := by kernel_rfl
theorem fok127 : funOk Try.f127 = true := by kernel_rfl
theorem fok128 : funOk Try.f128 = true := by kernel_rfl
theorem fok129 : funOk Try.f129 = true := by kernel_rfl
theorem fok130 : funOk Try.f130 = true := by kernel_rfl
theorem fok131 : funOk Try.f131 = true := by kernel_rfl
theorem fok132 : funOk Try.f132 = true := by kernel_rfl
theorem fok133 : funOk Try.f133 = true := by kernel_rfl
theorem fok134 : funOk Try.f134 = true := by kernel_rfl
theorem fok135 : funOk Try.f135 = true := by kernel_rfl
theorem fok136 : funOk Try.f136 = true := by kernel_rfl
theorem fok137 : funOk Try.f137 = true := by kernel_rfl
theorem fok138 : funOk Try.f138 = true := by kernel_rfl
theorem fok139 : funOk Try.f139 = true := by kernel_rfl
theorem fok140 : funOk Try.f140 = true := by kernel_rfl
theorem fok141 : funOk Try.f141 = true := by kernel_rfl
theorem fok142 : funOk Try.f142 = true := by kernel_rfl
theorem fok143 : funOk Try.f143 = true := by kernel_rfl
theorem fok144 : funOk Try.f144 = true := by kernel_rfl
theorem fok145 : funOk Try.f145 = true := by kernel_rfl
theorem fok146 : funOk Try.f146 = true := by kernel_rfl
theorem fok147 : funOk Try.f147 = true := by kernel_rfl
theorem fok148 : funOk Try.f148 = true := by kernel_rfl
theorem fok149 : funOk Try.f149 = true := by kernel_rfl
theorem fok150 : funOk Try.f150 = true := by kernel_rfl
theorem fok152 : funOk Try.f152 = true := by kernel_rfl
theorem fok153 : funOk Try.f153 = true := by kernel_rfl
theorem fok154 : funOk Try.f154 = true := by kernel_rfl
theorem fok155 : funOk Try.f155 = true := by kernel_rfl

/-- The facts as one name. -/
def absF := (And.intro (And.intro (And.intro (And.intro (And.intro (And.intro (And.intro @ty25 @sz25) (And.intro @in25 (And.intro @ty2 @sz2))) (And.intro (And.intro @in2 @ty3) (And.intro @sz3 (And.intro @in3 @ty31)))) (And.intro (And.intro (And.intro @sz31 @in31) (And.intro @ty47 (And.intro @sz47 @in47))) (And.intro (And.intro @ty57 (And.intro @sz57 @in57)) (And.intro @ty23 (And.intro @sz23 @in23))))) (And.intro (And.intro (And.intro (And.intro @ty29 @sz29) (And.intro @in29 (And.intro @ty26 @sz26))) (And.intro (And.intro @in26 (And.intro @ty67 @sz67)) (And.intro @in67 (And.intro @ty5 @sz5)))) (And.intro (And.intro (And.intro @in5 @ty36) (And.intro @sz36 (And.intro @in36 @ty74))) (And.intro (And.intro @sz74 (And.intro @in74 @ty73)) (And.intro @sz73 (And.intro @in73 @ty22)))))) (And.intro (And.intro (And.intro (And.intro (And.intro @sz22 @in22) (And.intro @ty78 (And.intro @sz78 @in78))) (And.intro (And.intro @ty69 @sz69) (And.intro @in69 (And.intro @ty96 @sz96)))) (And.intro (And.intro (And.intro @in96 @ty98) (And.intro @sz98 (And.intro @in98 @ty99))) (And.intro (And.intro @sz99 (And.intro @in99 @ty112)) (And.intro @sz112 (And.intro @in112 @ty119))))) (And.intro (And.intro (And.intro (And.intro @sz119 @in119) (And.intro @ty68 (And.intro @sz68 @in68))) (And.intro (And.intro @ty124 (And.intro @sz124 @in124)) (And.intro @ty123 (And.intro @sz123 @in123)))) (And.intro (And.intro (And.intro @ty4 @sz4) (And.intro @in4 (And.intro @ty77 @sz77))) (And.intro (And.intro @in77 (And.intro @ty87 @sz87)) (And.intro @in87 (And.intro @ty142 @sz142))))))) (And.intro (And.intro (And.intro (And.intro (And.intro (And.intro @in142 @ty143) (And.intro @sz143 (And.intro @in143 @ty147))) (And.intro (And.intro @sz147 @in147) (And.intro @ty148 (And.intro @sz148 @in148)))) (And.intro (And.intro (And.intro @ty157 @sz157) (And.intro @in157 (And.intro @ty139 @sz139))) (And.intro (And.intro @in139 (And.intro @ty94 @sz94)) (And.intro @in94 (And.intro @ty132 @sz132))))) (And.intro (And.intro (And.intro (And.intro @in132 @zo31) (And.intro @zo47 (And.intro @zo26 @zo67))) (And.intro (And.intro @zo74 (And.intro @zo78 @zo2)) (And.intro @zo96 (And.intro @zo98 @zo36)))) (And.intro (And.intro (And.intro @zo99 @zo119) (And.intro @zo29 (And.intro @zo124 @zo87))) (And.intro (And.intro @zo142 (And.intro @zo143 @zo147)) (And.intro @zo22 (And.intro @zo157 @zo139)))))) (And.intro (And.intro (And.intro (And.intro (And.intro @eq25 @eq31) (And.intro @eq47 (And.intro @eq23 @eq29))) (And.intro (And.intro @eq74 (And.intro @eq73 @eq22)) (And.intro @eq78 (And.intro @eq96 @eq98)))) (And.intro (And.intro (And.intro @eq119 @eq124) (And.intro @eq123 (And.intro @eq77 @eq87))) (And.intro (And.intro @eq142 (And.intro @eq147 @eq139)) (And.intro @el26 (And.intro @el36 @el57))))) (And.intro (And.intro (And.intro (And.intro @el69 @el148) (And.intro @el112 (And.intro @ze47 @ze57))) (And.intro (And.intro @ze2 (And.intro @ze5 @ze147)) (And.intro @ze3 (And.intro @ae47 @ae23)))) (And.intro (And.intro (And.intro @ae29 @ae74) (And.intro @ae73 (And.intro @ae22 @ae78))) (And.intro (And.intro @ae96 (And.intro @ae119 @ae124)) (And.intro @ae123 (And.intro @ae77 @ae147))))))))

end Go.Proofs.Ytkmdhcdfbdjdaaa
