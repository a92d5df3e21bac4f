/-
Facts of the loaded program that the abstract walk asks: the shapes of its types, and that its functions are in form. Printed by a program of this session (Facts.lean).
-/
import Derived.Test.YtnophcdinideaaaAbsQ
import Derived.Test.YtnophcdinideaaaRows
namespace Go.Proofs.Ytnophcdinideaaa
open Go Go.Abs
set_option linter.defProp false
set_option maxRecDepth 100000

theorem mix : Try.prog.follows .mixedOrders = true := by kernel_rfl
theorem ty26 : tyOf Try.prog 26 = .sl 1 8 := by kernel_rfl
theorem sz26 : szOf Try.prog 26 = 1 := by kernel_rfl
theorem in26 : (Try.prog.info? 26).isSome = true := by kernel_rfl
theorem ty3 : tyOf Try.prog 3 = .int .i64 := by kernel_rfl
theorem sz3 : szOf Try.prog 3 = 1 := by kernel_rfl
theorem in3 : (Try.prog.info? 3).isSome = true := by kernel_rfl
theorem ty25 : tyOf Try.prog 25 = .st [(0, 1), (1, 100)] 101 := by kernel_rfl
theorem sz25 : szOf Try.prog 25 = 101 := by kernel_rfl
theorem in25 : (Try.prog.info? 25).isSome = true := by kernel_rfl
theorem ty2 : tyOf Try.prog 2 = .int .i64 := by kernel_rfl
theorem sz2 : szOf Try.prog 2 = 1 := by kernel_rfl
theorem in2 : (Try.prog.info? 2).isSome = true := by kernel_rfl
theorem ty4 : tyOf Try.prog 4 = .bool := by kernel_rfl
theorem sz4 : szOf Try.prog 4 = 1 := by kernel_rfl
theorem in4 : (Try.prog.info? 4).isSome = true := by kernel_rfl
theorem ty31 : tyOf Try.prog 31 = .st [(0, 1), (1, 100)] 101 := by kernel_rfl
theorem sz31 : szOf Try.prog 31 = 101 := by kernel_rfl
theorem in31 : (Try.prog.info? 31).isSome = true := by kernel_rfl
theorem ty55 : tyOf Try.prog 55 = .sl 1 24 := by kernel_rfl
theorem sz55 : szOf Try.prog 55 = 1 := by kernel_rfl
theorem in55 : (Try.prog.info? 55).isSome = true := by kernel_rfl
theorem ty23 : tyOf Try.prog 23 = .arr 10 10 100 := by kernel_rfl
theorem sz23 : szOf Try.prog 23 = 100 := by kernel_rfl
theorem in23 : (Try.prog.info? 23).isSome = true := by kernel_rfl
theorem ty29 : tyOf Try.prog 29 = .arr 10 10 100 := by kernel_rfl
theorem sz29 : szOf Try.prog 29 = 100 := by kernel_rfl
theorem in29 : (Try.prog.info? 29).isSome = true := by kernel_rfl
theorem ty22 : tyOf Try.prog 22 = .arr 10 1 10 := by kernel_rfl
theorem sz22 : szOf Try.prog 22 = 10 := by kernel_rfl
theorem in22 : (Try.prog.info? 22).isSome = true := by kernel_rfl
theorem ty5 : tyOf Try.prog 5 = .int .u8 := by kernel_rfl
theorem sz5 : szOf Try.prog 5 = 1 := by kernel_rfl
theorem in5 : (Try.prog.info? 5).isSome = true := by kernel_rfl
theorem ty80 : tyOf Try.prog 80 = .int .i64 := by kernel_rfl
theorem sz80 : szOf Try.prog 80 = 1 := by kernel_rfl
theorem in80 : (Try.prog.info? 80).isSome = true := by kernel_rfl
theorem ty107 : tyOf Try.prog 107 = .sl 1 1 := by kernel_rfl
theorem sz107 : szOf Try.prog 107 = 1 := by kernel_rfl
theorem in107 : (Try.prog.info? 107).isSome = true := by kernel_rfl
theorem ty86 : tyOf Try.prog 86 = .arr 10 1 10 := by kernel_rfl
theorem sz86 : szOf Try.prog 86 = 10 := by kernel_rfl
theorem in86 : (Try.prog.info? 86).isSome = true := by kernel_rfl
theorem ty9 : tyOf Try.prog 9 = .str := by kernel_rfl
theorem sz9 : szOf Try.prog 9 = 1 := by kernel_rfl
theorem in9 : (Try.prog.info? 9).isSome = true := by kernel_rfl
theorem ty103 : tyOf Try.prog 103 = .arr 3 1 3 := by kernel_rfl
theorem sz103 : szOf Try.prog 103 = 3 := by kernel_rfl
theorem in103 : (Try.prog.info? 103).isSome = true := by kernel_rfl
theorem ty114 : tyOf Try.prog 114 = .arr 2 3 6 := by kernel_rfl
theorem sz114 : szOf Try.prog 114 = 6 := by kernel_rfl
theorem in114 : (Try.prog.info? 114).isSome = true := by kernel_rfl
theorem ty120 : tyOf Try.prog 120 = .arr 10 1 10 := by kernel_rfl
theorem sz120 : szOf Try.prog 120 = 10 := by kernel_rfl
theorem in120 : (Try.prog.info? 120).isSome = true := by kernel_rfl
theorem zo31 : zeroOf Try.prog 31 = some [(0, .ints .i64 1 [0]), (1, .ints .u8 100 (List.replicate 100 0))] := by kernel_rfl
theorem zo5 : zeroOf Try.prog 5 = some [(0, .ints .u8 1 [0])] := by kernel_rfl
theorem zo29 : zeroOf Try.prog 29 = some [(0, .ints .u8 100 (List.replicate 100 0))] := by kernel_rfl
theorem zo86 : zeroOf Try.prog 86 = some [(0, .bools 10 (List.replicate 10 false))] := by kernel_rfl
theorem zo22 : zeroOf Try.prog 22 = some [(0, .ints .u8 10 (List.replicate 10 0))] := by kernel_rfl
theorem zo103 : zeroOf Try.prog 103 = some [(0, .ints .u8 3 (List.replicate 3 0))] := by kernel_rfl
theorem zo114 : zeroOf Try.prog 114 = some [(0, .ints .u8 6 (List.replicate 6 0))] := by kernel_rfl
theorem eq25 : eqTy Try.prog 25 [(.int .i64, 1), (.int .u8, 100)] = true := by kernel_rfl
theorem eq31 : eqTy Try.prog 31 [(.int .i64, 1), (.int .u8, 100)] = true := by kernel_rfl
theorem eq23 : eqTy Try.prog 23 [(.int .u8, 100)] = true := by kernel_rfl
theorem eq29 : eqTy Try.prog 29 [(.int .u8, 100)] = true := by kernel_rfl
theorem eq22 : eqTy Try.prog 22 [(.int .u8, 10)] = true := by kernel_rfl
theorem eq86 : eqTy Try.prog 86 [(.bool, 10)] = true := by kernel_rfl
theorem eq103 : eqTy Try.prog 103 [(.int .u8, 3)] = true := by kernel_rfl
theorem eq114 : eqTy Try.prog 114 [(.int .u8, 6)] = true := by kernel_rfl
theorem eq120 : eqTy Try.prog 120 [(.int .u8, 10)] = true := by kernel_rfl
theorem el55 : elOf Try.prog 55 = 26 := by kernel_rfl
theorem el26 : elOf Try.prog 26 = 2 := by kernel_rfl
theorem el107 : elOf Try.prog 107 = 5 := by kernel_rfl
theorem ze26 : zeroEl Try.prog 26 = some (.cells .nils) := by kernel_rfl
theorem ze2 : zeroEl Try.prog 2 = some (.ints .i64 1) := by kernel_rfl
theorem ze5 : zeroEl Try.prog 5 = some (.ints .u8 1) := by kernel_rfl
theorem ae23 : arrEl Try.prog 23 = 22 := by kernel_rfl
theorem ae29 : arrEl Try.prog 29 = 22 := by kernel_rfl
theorem ae22 : arrEl Try.prog 22 = 5 := by kernel_rfl
theorem ae86 : arrEl Try.prog 86 = 4 := by kernel_rfl
theorem ae103 : arrEl Try.prog 103 = 5 := by kernel_rfl
theorem ae114 : arrEl Try.prog 114 = 103 := by kernel_rfl
theorem ae120 : arrEl Try.prog 120 = 5 := by kernel_rfl
theorem fok3 : funOk Try.f3 = true := by kernel_rfl
theorem fok4 : funOk Try.f4 = true := by kernel_rfl
theorem fok5 : funOk Try.f5 = true := by kernel_rfl
theorem fok6 : funOk Try.f6 = true := by kernel_rfl
theorem fok7 : funOk Try.f7 = true := by kernel_rfl
theorem fok8 : funOk Try.f8 = true := by kernel_rfl
theorem fok9 : funOk Try.f9 = true := by kernel_rfl
theorem fok10 : funOk Try.f10 = true := by kernel_rfl
theorem fok11 : funOk Try.f11 = true := by kernel_rfl
theorem fok12 : funOk Try.f12 = true := by kernel_rfl
theorem fok13 : funOk Try.f13 = true := by kernel_rfl
theorem fok14 : funOk Try.f14 = true := by kernel_rfl
theorem fok15 : funOk Try.f15 = true := by kernel_rfl
theorem fok16 : funOk Try.f16 = true := by kernel_rfl
theorem fok17 : funOk Try.f17 = true := by kernel_rfl
theorem fok18 : funOk Try.f18 = true := by kernel_rfl
theorem fok19 : funOk Try.f19 = true := by kernel_rfl
theorem fok20 : funOk Try.f20 = true := by kernel_rfl
theorem fok21 : funOk Try.f21 = true := by kernel_rfl
theorem fok22 : funOk Try.f22 = true := by kernel_rfl
theorem fok23 : funOk Try.f23 = true := by kernel_rfl
theorem fok24 : funOk Try.f24 = true := by kernel_rfl
theorem fok25 : funOk Try.f25 = true := by kernel_rfl
theorem fok26 : funOk Try.f26 = true := by kernel_rfl
theorem fok27 : funOk Try.f27 = true := by kernel_rfl
theorem fok28 : funOk Try.f28 = true := by kernel_rfl
theorem fok29 : funOk Try.f29 = true := by kernel_rfl
theorem fok30 : funOk Try.f30 = true := by kernel_rfl
theorem fok31 : funOk Try.f31 = true := by kernel_rfl
theorem fok32 : funOk Try.f32 = true := by kernel_rfl
theorem fok33 : funOk Try.f33 = true := by kernel_rfl
theorem fok34 : funOk Try.f34 = true := by kernel_rfl
theorem fok35 : funOk Try.f35 = true := by kernel_rfl
theorem fok36 : funOk Try.f36 = true := by kernel_rfl
theorem fok37 : funOk Try.f37 = true := by kernel_rfl
theorem fok38 : funOk Try.f38 = true := by kernel_rfl
theorem fok39 : funOk Try.f39 = true := by kernel_rfl
theorem fok40 : funOk Try.f40 = true := by kernel_rfl
theorem fok41 : funOk Try.f41 = true := by kernel_rfl
theorem fok42 : funOk Try.f42 = true := by kernel_rfl
theorem fok43 : funOk Try.f43 = true := by kernel_rfl
theorem fok44 : funOk Try.f44 = true := by kernel_rfl
theorem fok45 : funOk Try.f45 = true := by kernel_rfl
theorem fok46 : funOk Try.f46 = true := by kernel_rfl
theorem fok47 : funOk Try.f47 = true := by kernel_rfl
theorem fok48 : funOk Try.f48 = true := by kernel_rfl
theorem fok49 : funOk Try.f49 = true := by kernel_rfl
theorem fok50 : funOk Try.f50 = true := by kernel_rfl
theorem fok51 : funOk Try.f51 = true := by kernel_rfl
theorem fok52 : funOk Try.f52 = true := by kernel_rfl
theorem fok53 : funOk Try.f53 = true := by kernel_rfl
theorem fok54 : funOk Try.f54 = true := by kernel_rfl
theorem fok55 : funOk Try.f55 = true := by kernel_rfl
theorem fok56 : funOk Try.f56 = true := by kernel_rfl
theorem fok57 : funOk Try.f57 = true := by kernel_rfl
theorem fok58 : funOk Try.f58 = true := by kernel_rfl
theorem fok59 : funOk Try.f59 = true := by kernel_rfl
theorem fok60 : funOk Try.f60 = true := by kernel_rfl
theorem fok61 : funOk Try.f61 = true := by kernel_rfl
theorem fok62 : funOk Try.f62 = true := by kernel_rfl
theorem fok63 : funOk Try.f63 = true := by kernel_rfl
theorem fok64 : funOk Try.f64 = true := by kernel_rfl
theorem fok65 : funOk Try.f65 = true := by kernel_rfl
theorem fok66 : funOk Try.f66 = true := by kernel_rfl
theorem fok67 : funOk Try.f67 = true := by kernel_rfl
theorem fok68 : funOk Try.f68 = true := by kernel_rfl
theorem fok69 : funOk Try.f69 = true := by kernel_rfl
theorem fok70 : funOk Try.f70 = true := by kernel_rfl
theorem fok71 : funOk Try.f71 = true := by kernel_rfl
theorem fok72 : funOk Try.f72 = true := by kernel_rfl
theorem fok73 : funOk Try.f73 = true := by kernel_rfl
theorem fok74 : funOk Try.f74 = true := by kernel_rfl
theorem fok75 : funOk Try.f75 = true := by kernel_rfl
theorem fok76 : funOk Try.f76 = true := by kernel_rfl
theorem fok77 : funOk Try.f77 = true := by kernel_rfl
theorem fok78 : funOk Try.f78 = true := by kernel_rfl
theorem fok79 : funOk Try.f79 = true := by kernel_rfl
theorem fok80 : funOk Try.f80 = true := by kernel_rfl
theorem fok81 : funOk Try.f81 = true := by kernel_rfl
theorem fok82 : funOk Try.f82 = true := by kernel_rfl
theorem fok83 : funOk Try.f83 = true := by kernel_rfl
theorem fok84 : funOk Try.f84 = true := by kernel_rfl
theorem fok85 : funOk Try.f85 = true := by kernel_rfl
theorem fok86 : funOk Try.f86 = true := by kernel_rfl
theorem fok87 : funOk Try.f87 = true := by kernel_rfl
theorem fok88 : funOk Try.f88 = true := by kernel_rfl
theorem fok89 : funOk Try.f89 = true := by kernel_rfl
theorem fok90 : funOk Try.f90 = true := by kernel_rfl
theorem fok91 : funOk Try.f91 = true := by kernel_rfl
theorem fok92 : funOk Try.f92 = true := by kernel_rfl
theorem fok93 : funOk Try.f93 = true := by kernel_rfl
theorem fok94 : funOk Try.f94 = true := by kernel_rfl
theorem fok95 : funOk Try.f95 = true := by kernel_rfl
theorem fok96 : funOk Try.f96 = true := by kernel_rfl
theorem fok97 : funOk Try.f97 = true := by kernel_rfl
theorem fok98 : funOk Try.f98 = true := by kernel_rfl
theorem fok99 : funOk Try.f99 = true := by kernel_rfl
theorem fok100 : funOk Try.f100 = true := by kernel_rfl
theorem fok101 : funOk Try.f101 = true := by kernel_rfl
theorem fok102 : funOk Try.f102 = true := by kernel_rfl
theorem fok103 : funOk Try.f103 = true := by kernel_rfl
theorem fok104 : funOk Try.f104 = true := by kernel_rfl
theorem fok105 : funOk Try.f105 = true := by kernel_rfl
theorem fok106 : funOk Try.f106 = true := by kernel_rfl
theorem fok107 : funOk Try.f107 = true := by kernel_rfl
theorem fok108 : funOk Try.f108 = true := by kernel_rfl
theorem fok109 : funOk Try.f109 = true := by kernel_rfl
theorem fok110 : funOk Try.f110 = true := by kernel_rfl
theorem fok111 : funOk Try.f111 = true := by kernel_rfl
theorem fok112 : funOk Try.f112 = true := by kernel_rfl
theorem fok113 : funOk Try.f113 = true := by kernel_rfl
theorem fok114 : funOk Try.f114 = true := by kernel_rfl
theorem fok115 : funOk Try.f115 = true := by kernel_rfl
theorem fok116 : funOk Try.f116 = true := by kernel_rfl
theorem fok117 : funOk Try.f117 = true := by kernel_rfl
theorem fok118 : funOk Try.f118 = true := by kernel_rfl
theorem fok119 : funOk Try.f119 = true := by kernel_rfl
theorem fok120 : funOk Try.f120 = true := by kernel_rfl
theorem fok121 : funOk Try.f121 = true := by kernel_rfl
theorem fok122 : funOk Try.f122 = true := by kernel_rfl
theorem fok123 : funOk Try.f123 = true := by kernel_rfl
theorem fok124 : funOk Try.f124 = true := by kernel_rfl
theorem fok125 : funOk Try.f125 = true := by kernel_rfl

/-- The facts as one name. -/
def absF := (And.intro (And.intro (And.intro (And.intro (And.intro (And.intro @ty26 @sz26) (And.intro @in26 (And.intro @ty3 @sz3))) (And.intro (And.intro @in3 @ty25) (And.intro @sz25 (And.intro @in25 @ty2)))) (And.intro (And.intro (And.intro @sz2 @in2) (And.intro @ty4 (And.intro @sz4 @in4))) (And.intro (And.intro @ty31 @sz31) (And.intro @in31 (And.intro @ty55 @sz55))))) (And.intro (And.intro (And.intro (And.intro @in55 @ty23) (And.intro @sz23 (And.intro @in23 @ty29))) (And.intro (And.intro @sz29 @in29) (And.intro @ty22 (And.intro @sz22 @in22)))) (And.intro (And.intro (And.intro @ty5 @sz5) (And.intro @in5 (And.intro @ty80 @sz80))) (And.intro (And.intro @in80 (And.intro @ty107 @sz107)) (And.intro @in107 (And.intro @ty86 @sz86)))))) (And.intro (And.intro (And.intro (And.intro (And.intro @in86 @ty9) (And.intro @sz9 (And.intro @in9 @ty103))) (And.intro (And.intro @sz103 @in103) (And.intro @ty114 (And.intro @sz114 @in114)))) (And.intro (And.intro (And.intro @ty120 @sz120) (And.intro @in120 (And.intro @zo31 @zo5))) (And.intro (And.intro @zo29 (And.intro @zo86 @zo22)) (And.intro @zo103 (And.intro @zo114 @eq25))))) (And.intro (And.intro (And.intro (And.intro @eq31 @eq23) (And.intro @eq29 (And.intro @eq22 @eq86))) (And.intro (And.intro @eq103 @eq114) (And.intro @eq120 (And.intro @el55 @el26)))) (And.intro (And.intro (And.intro @el107 @ze26) (And.intro @ze2 (And.intro @ze5 @ae23))) (And.intro (And.intro @ae29 (And.intro @ae22 @ae86)) (And.intro @ae103 (And.intro @ae114 @ae120)))))))

end Go.Proofs.Ytnophcdinideaaa
