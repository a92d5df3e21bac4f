/-
Facts of the loaded program that the abstract walk asks: the shapes of its types, and that its functions are in form. Printed by a program of this session (Facts.lean).
-/
import Derived.Test.YtjmenocghjggcaaAbsQ
import Derived.Test.YtjmenocghjggcaaRows
namespace Go.Proofs.Ytjmenocghjggcaa
open Go Go.Abs
set_option linter.defProp false
set_option maxRecDepth 100000

theorem mix : Try.prog.follows .mixedOrders = true := by kernel_rfl
theorem ty25 : tyOf Try.prog 25 = .st [(0, 1), (1, 100)] 101 := by kernel_rfl
theorem sz25 : szOf Try.prog 25 = 101 := by kernel_rfl
theorem in25 : (Try.prog.info? 25).isSome = true := by kernel_rfl
theorem ty2 : tyOf Try.prog 2 = .int .i64 := by kernel_rfl
theorem sz2 : szOf Try.prog 2 = 1 := by kernel_rfl
theorem in2 : (Try.prog.info? 2).isSome = true := by kernel_rfl
theorem ty33 : tyOf Try.prog 33 = .sl 1 8 := by kernel_rfl
theorem sz33 : szOf Try.prog 33 = 1 := by kernel_rfl
theorem in33 : (Try.prog.info? 33).isSome = true := by kernel_rfl
theorem ty3 : tyOf Try.prog 3 = .int .i64 := by kernel_rfl
theorem sz3 : szOf Try.prog 3 = 1 := by kernel_rfl
theorem in3 : (Try.prog.info? 3).isSome = true := by kernel_rfl
theorem ty4 : tyOf Try.prog 4 = .bool := by kernel_rfl
theorem sz4 : szOf Try.prog 4 = 1 := by kernel_rfl
theorem in4 : (Try.prog.info? 4).isSome = true := by kernel_rfl
theorem ty30 : tyOf Try.prog 30 = .st [(0, 1), (1, 100)] 101 := by kernel_rfl
theorem sz30 : szOf Try.prog 30 = 101 := by kernel_rfl
theorem in30 : (Try.prog.info? 30).isSome = true := by kernel_rfl
theorem ty49 : tyOf Try.prog 49 = .sl 1 24 := by kernel_rfl
theorem sz49 : szOf Try.prog 49 = 1 := by kernel_rfl
theorem in49 : (Try.prog.info? 49).isSome = true := by kernel_rfl
theorem ty23 : tyOf Try.prog 23 = .arr 10 10 100 := by kernel_rfl
theorem sz23 : szOf Try.prog 23 = 100 := by kernel_rfl
theorem in23 : (Try.prog.info? 23).isSome = true := by kernel_rfl
theorem ty28 : tyOf Try.prog 28 = .arr 10 10 100 := by kernel_rfl
theorem sz28 : szOf Try.prog 28 = 100 := by kernel_rfl
theorem in28 : (Try.prog.info? 28).isSome = true := by kernel_rfl
theorem ty57 : tyOf Try.prog 57 = .sl 1 8 := by kernel_rfl
theorem sz57 : szOf Try.prog 57 = 1 := by kernel_rfl
theorem in57 : (Try.prog.info? 57).isSome = true := by kernel_rfl
theorem ty70 : tyOf Try.prog 70 = .st [(0, 1), (1, 1), (2, 100), (102, 1)] 103 := by kernel_rfl
theorem sz70 : szOf Try.prog 70 = 103 := by kernel_rfl
theorem in70 : (Try.prog.info? 70).isSome = true := by kernel_rfl
theorem ty22 : tyOf Try.prog 22 = .arr 10 1 10 := by kernel_rfl
theorem sz22 : szOf Try.prog 22 = 10 := by kernel_rfl
theorem in22 : (Try.prog.info? 22).isSome = true := by kernel_rfl
theorem ty5 : tyOf Try.prog 5 = .int .u8 := by kernel_rfl
theorem sz5 : szOf Try.prog 5 = 1 := by kernel_rfl
theorem in5 : (Try.prog.info? 5).isSome = true := by kernel_rfl
theorem ty72 : tyOf Try.prog 72 = .arr 10 1 10 := by kernel_rfl
theorem sz72 : szOf Try.prog 72 = 10 := by kernel_rfl
theorem in72 : (Try.prog.info? 72).isSome = true := by kernel_rfl
theorem ty67 : tyOf Try.prog 67 = .sl 10 10 := by kernel_rfl
theorem sz67 : szOf Try.prog 67 = 1 := by kernel_rfl
theorem in67 : (Try.prog.info? 67).isSome = true := by kernel_rfl
theorem ty76 : tyOf Try.prog 76 = .sc := by kernel_rfl
theorem sz76 : szOf Try.prog 76 = 1 := by kernel_rfl
theorem in76 : (Try.prog.info? 76).isSome = true := by kernel_rfl
theorem ty74 : tyOf Try.prog 74 = .arr 10 1 10 := by kernel_rfl
theorem sz74 : szOf Try.prog 74 = 10 := by kernel_rfl
theorem in74 : (Try.prog.info? 74).isSome = true := by kernel_rfl
theorem ty79 : tyOf Try.prog 79 = .sl 1 1 := by kernel_rfl
theorem sz79 : szOf Try.prog 79 = 1 := by kernel_rfl
theorem in79 : (Try.prog.info? 79).isSome = true := by kernel_rfl
theorem ty95 : tyOf Try.prog 95 = .arr 10 1 10 := by kernel_rfl
theorem sz95 : szOf Try.prog 95 = 10 := by kernel_rfl
theorem in95 : (Try.prog.info? 95).isSome = true := by kernel_rfl
theorem ty98 : tyOf Try.prog 98 = .sc := by kernel_rfl
theorem sz98 : szOf Try.prog 98 = 1 := by kernel_rfl
theorem in98 : (Try.prog.info? 98).isSome = true := by kernel_rfl
theorem ty103 : tyOf Try.prog 103 = .sl 111 120 := by kernel_rfl
theorem sz103 : szOf Try.prog 103 = 1 := by kernel_rfl
theorem in103 : (Try.prog.info? 103).isSome = true := by kernel_rfl
theorem ty107 : tyOf Try.prog 107 = .st [(0, 1), (1, 10), (11, 100)] 111 := by kernel_rfl
theorem sz107 : szOf Try.prog 107 = 111 := by kernel_rfl
theorem in107 : (Try.prog.info? 107).isSome = true := by kernel_rfl
theorem ty75 : tyOf Try.prog 75 = .sc := by kernel_rfl
theorem sz75 : szOf Try.prog 75 = 1 := by kernel_rfl
theorem in75 : (Try.prog.info? 75).isSome = true := by kernel_rfl
theorem ty99 : tyOf Try.prog 99 = .int .i64 := by kernel_rfl
theorem sz99 : szOf Try.prog 99 = 1 := by kernel_rfl
theorem in99 : (Try.prog.info? 99).isSome = true := by kernel_rfl
theorem ty119 : tyOf Try.prog 119 = .st [(0, 1), (1, 10), (11, 1000), (1011, 100)] 1111 := by kernel_rfl
theorem sz119 : szOf Try.prog 119 = 1111 := by kernel_rfl
theorem in119 : (Try.prog.info? 119).isSome = true := by kernel_rfl
theorem ty116 : tyOf Try.prog 116 = .arr 10 100 1000 := by kernel_rfl
theorem sz116 : szOf Try.prog 116 = 1000 := by kernel_rfl
theorem in116 : (Try.prog.info? 116).isSome = true := by kernel_rfl
theorem ty105 : tyOf Try.prog 105 = .arr 10 10 100 := by kernel_rfl
theorem sz105 : szOf Try.prog 105 = 100 := by kernel_rfl
theorem in105 : (Try.prog.info? 105).isSome = true := by kernel_rfl
theorem ty117 : tyOf Try.prog 117 = .arr 10 10 100 := by kernel_rfl
theorem sz117 : szOf Try.prog 117 = 100 := by kernel_rfl
theorem in117 : (Try.prog.info? 117).isSome = true := by kernel_rfl
theorem zo30 : zeroOf Try.prog 30 = some [(0, .ints .i64 1 [0]), (1, .ints .u8 100 (List.replicate 100 0))] := by kernel_rfl
theorem zo2 : zeroOf Try.prog 2 = some [(0, .ints .i64 1 [0])] := by kernel_rfl
theorem zo70 : zeroOf Try.prog 70 = some [(0, .ints .i64 1 [0]), (1, .cells 1 [.nils]), (2, .ints .u8 100 (List.replicate 100 0)), (102, .ints .i64 1 [0])] := by kernel_rfl
theorem zo72 : zeroOf Try.prog 72 = some [(0, .cells 10 [.nils, .nils, .nils, .nils, .nils, .nils, .nils, .nils, .nils, .nils])] := by kernel_rfl
theorem zo67 : zeroOf Try.prog 67 = some [(0, .cells 1 [.nils])] := by kernel_rfl
theorem zo3 : zeroOf Try.prog 3 = some [(0, .ints .i64 1 [0])] := by kernel_rfl
theorem zo76 : zeroOf Try.prog 76 = some [(0, .cells 1 [.nilf])] := by kernel_rfl
theorem zo74 : zeroOf Try.prog 74 = some [(0, .ints .u8 10 (List.replicate 10 0))] := by kernel_rfl
theorem zo28 : zeroOf Try.prog 28 = some [(0, .ints .u8 100 (List.replicate 100 0))] := by kernel_rfl
theorem zo95 : zeroOf Try.prog 95 = some [(0, .bools 10 (List.replicate 10 false))] := by kernel_rfl
theorem zo98 : zeroOf Try.prog 98 = some [(0, .cells 1 [.nilf])] := by kernel_rfl
theorem zo22 : zeroOf Try.prog 22 = some [(0, .ints .u8 10 (List.replicate 10 0))] := by kernel_rfl
theorem zo119 : zeroOf Try.prog 119 = some [(0, .ints .i64 1 [0]), (1, .cells 10 [.nils, .nils, .nils, .nils, .nils, .nils, .nils, .nils, .nils, .nils]), (11, .ints .u8 1000 (List.replicate 1000 0)), (1011, .bools 100 (List.replicate 100 false))] := by kernel_rfl
theorem zo107 : zeroOf Try.prog 107 = some [(0, .ints .i64 1 [0]), (1, .bools 10 (List.replicate 10 false)), (11, .ints .u8 100 (List.replicate 100 0))] := by kernel_rfl
theorem eq25 : eqTy Try.prog 25 [(.int .i64, 1), (.int .u8, 100)] = true := by kernel_rfl
theorem eq30 : eqTy Try.prog 30 [(.int .i64, 1), (.int .u8, 100)] = true := by kernel_rfl
theorem eq23 : eqTy Try.prog 23 [(.int .u8, 100)] = true := by kernel_rfl
theorem eq28 : eqTy Try.prog 28 [(.int .u8, 100)] = true := by kernel_rfl
theorem eq22 : eqTy Try.prog 22 [(.int .u8, 10)] = true := by kernel_rfl
theorem eq74 : eqTy Try.prog 74 [(.int .u8, 10)] = true := by kernel_rfl
theorem eq95 : eqTy Try.prog 95 [(.bool, 10)] = true := by kernel_rfl
theorem eq107 : eqTy Try.prog 107 [(.int .i64, 1), (.bool, 10), (.int .u8, 100)] = true := by kernel_rfl
theorem eq116 : eqTy Try.prog 116 [(.int .u8, 1000)] = true := by kernel_rfl
theorem eq105 : eqTy Try.prog 105 [(.int .u8, 100)] = true := by kernel_rfl
theorem eq117 : eqTy Try.prog 117 [(.bool, 100)] = true := by kernel_rfl
theorem el33 : elOf Try.prog 33 = 2 := by kernel_rfl
theorem el49 : elOf Try.prog 49 = 33 := by kernel_rfl
theorem el67 : elOf Try.prog 67 = 74 := by kernel_rfl
theorem el57 : elOf Try.prog 57 = 3 := by kernel_rfl
theorem el79 : elOf Try.prog 79 = 5 := by kernel_rfl
theorem el103 : elOf Try.prog 103 = 107 := by kernel_rfl
theorem ze2 : zeroEl Try.prog 2 = some (.ints .i64 1) := by kernel_rfl
theorem ze33 : zeroEl Try.prog 33 = some (.cells .nils) := by kernel_rfl
theorem ze74 : zeroEl Try.prog 74 = some (.ints .u8 10) := by kernel_rfl
theorem ze3 : zeroEl Try.prog 3 = some (.ints .i64 1) := by kernel_rfl
theorem ze5 : zeroEl Try.prog 5 = some (.ints .u8 1) := by kernel_rfl
theorem ze107 : zeroEl Try.prog 107 = none := by kernel_rfl
theorem ae23 : arrEl Try.prog 23 = 22 := by kernel_rfl
theorem ae28 : arrEl Try.prog 28 = 22 := by kernel_rfl
theorem ae22 : arrEl Try.prog 22 = 5 := by kernel_rfl
theorem ae72 : arrEl Try.prog 72 = 67 := by kernel_rfl
theorem ae74 : arrEl Try.prog 74 = 5 := by kernel_rfl
theorem ae95 : arrEl Try.prog 95 = 4 := by kernel_rfl
theorem ae116 : arrEl Try.prog 116 = 105 := by kernel_rfl
theorem ae105 : arrEl Try.prog 105 = 74 := by kernel_rfl
theorem ae117 : arrEl Try.prog 117 = 95 := by kernel_rfl
theorem fok3 : funOk Try.f3 = true := by kernel_rfl
theorem fok4 : funOk Try.f4 = true := by kernel_rfl
theorem fok5 : funOk Try.f5 = true := by kernel_rfl
theorem fok6 : funOk Try.f6 = true := by kernel_rfl
theorem fok7 : funOk Try.f7 = true := by kernel_rfl
theorem fok8 : funOk Try.f8 = true := by kernel_rfl
theorem fok9 : funOk Try.f9 = true := by kernel_rfl
theorem fok10 : funOk Try.f10 = true := by kernel_rfl
theorem fok11 : funOk Try.f11 = true := by kernel_rfl
theorem fok12 : funOk Try.f12 = true := by kernel_rfl
theorem fok13 : funOk Try.f13 = true := by kernel_rfl
theorem fok14 : funOk Try.f14 = true := by kernel_rfl
theorem fok15 : funOk Try.f15 = true := by kernel_rfl
theorem fok16 : funOk Try.f16 = true := by kernel_rfl
theorem fok17 : funOk Try.f17 = true := by kernel_rfl
theorem fok18 : funOk Try.f18 = true := by kernel_rfl
theorem fok19 : funOk Try.f19 = true := by kernel_rfl
theorem fok20 : funOk Try.f20 = true := by kernel_rfl
theorem fok21 : funOk Try.f21 = true := by kernel_rfl
theorem fok22 : funOk Try.f22 = true := by kernel_rfl
theorem fok23 : funOk Try.f23 = true := by kernel_rfl
theorem fok24 : funOk Try.f24 = true := by kernel_rfl
theorem fok25 : funOk Try.f25 = true := by kernel_rfl
theorem fok26 : funOk Try.f26 = true := by kernel_rfl
theorem fok27 : funOk Try.f27 = true := by kernel_rfl
theorem fok28 : funOk Try.f28 = true := by kernel_rfl
theorem fok29 : funOk Try.f29 = true := by kernel_rfl
theorem fok30 : funOk Try.f30 = true := by kernel_rfl
theorem fok31 : funOk Try.f31 = true := by kernel_rfl
theorem fok32 : funOk Try.f32 = true := by kernel_rfl
theorem fok33 : funOk Try.f33 = true := by kernel_rfl
theorem fok34 : funOk Try.f34 = true := by kernel_rfl
theorem fok35 : funOk Try.f35 = true := by kernel_rfl
theorem fok36 : funOk Try.f36 = true := by kernel_rfl
theorem fok37 : funOk Try.f37 = true := by kernel_rfl
theorem fok38 : funOk Try.f38 = true := by kernel_rfl
theorem fok39 : funOk Try.f39 = true := by kernel_rfl
theorem fok40 : funOk Try.f40 = true := by kernel_rfl
theorem fok41 : funOk Try.f41 = true := by kernel_rfl
theorem fok42 : funOk Try.f42 = true := by kernel_rfl
theorem fok43 : funOk Try.f43 = true := by kernel_rfl
theorem fok44 : funOk Try.f44 = true := by kernel_rfl
theorem fok45 : funOk Try.f45 = true := by kernel_rfl
theorem fok46 : funOk Try.f46 = true := by kernel_rfl
theorem fok47 : funOk Try.f47 = true := by kernel_rfl
theorem fok48 : funOk Try.f48 = true := by kernel_rfl
theorem fok49 : funOk Try.f49 = true := by kernel_rfl
theorem fok50 : funOk Try.f50 = true := by kernel_rfl
theorem fok51 : funOk Try.f51 = true := by kernel_rfl
theorem fok52 : funOk Try.f52 = true := by kernel_rfl
theorem fok53 : funOk Try.f53 = true := by kernel_rfl
theorem fok54 : funOk Try.f54 = true := by kernel_rfl
theorem fok55 : funOk Try.f55 = true := by kernel_rfl
theorem fok56 : funOk Try.f56 = true := by kernel_rfl
theorem fok57 : funOk Try.f57 = true := by kernel_rfl
theorem fok58 : funOk Try.f58 = true := by kernel_rfl
theorem fok59 : funOk Try.f59 = true := by kernel_rfl
theorem fok60 : funOk Try.f60 = true := by kernel_rfl
theorem fok61 : funOk Try.f61 = true := by kernel_rfl
theorem fok62 : funOk Try.f62 = true := by kernel_rfl
theorem fok63 : funOk Try.f63 = true := by kernel_rfl
theorem fok64 : funOk Try.f64 = true := by kernel_rfl
theorem fok65 : funOk Try.f65 = true := by kernel_rfl
theorem fok66 : funOk Try.f66 = true := by kernel_rfl
theorem fok67 : funOk Try.f67 = true := by kernel_rfl
theorem fok68 : funOk Try.f68 = true := by kernel_rfl
theorem fok69 : funOk Try.f69 = true := by kernel_rfl
theorem fok70 : funOk Try.f70 = true := by kernel_rfl
theorem fok71 : funOk Try.f71 = true := by kernel_rfl
theorem fok72 : funOk Try.f72 = true := by kernel_rfl
theorem fok73 : funOk Try.f73 = true := by kernel_rfl
theorem fok74 : funOk Try.f74 = true := by kernel_rfl
theorem fok75 : funOk Try.f75 = true := by kernel_rfl
theorem fok76 : funOk Try.f76 = true := by kernel_rfl
theorem fok77 : funOk Try.f77 = true := by kernel_rfl
theorem fok78 : funOk Try.f78 = true := by kernel_rfl
theorem fok79 : funOk Try.f79 = true := by kernel_rfl
theorem fok80 : funOk Try.f80 = true := by kernel_rfl
theorem fok81 : funOk Try.f81 = true := by kernel_rfl
theorem fok82 : funOk Try.f82 = true := by kernel_rfl
theorem fok83 : funOk Try.f83 = true := by kernel_rfl
theorem fok84 : funOk Try.f84 = true := by kernel_rfl
theorem fok85 : funOk Try.f85 = true := by kernel_rfl
theorem fok86 : funOk Try.f86 = true := by kernel_rfl
theorem fok87 : funOk Try.f87 = true := by kernel_rfl
theorem fok88 : funOk Try.f88 = true := by kernel_rfl
theorem fok89 : funOk Try.f89 = true := by kernel_rfl
theorem fok90 : funOk Try.f90 = true := by kernel_rfl
theorem fok91 : funOk Try.f91 = true := by kernel_rfl
theorem fok92 : funOk Try.f92 = true := by kernel_rfl
theorem fok93 : funOk Try.f93 = true := by kernel_rfl
theorem fok94 : funOk Try.f94 = true := by kernel_rfl
theorem fok95 : funOk Try.f95 = true := by kernel_rfl
theorem fok96 : funOk Try.f96 = true := by kernel_rfl
theorem fok97 : funOk Try.f97 = true := by kernel_rfl
theorem fok98 : funOk Try.f98 = true := by kernel_rfl
theorem fok99 : funOk Try.f99 = true := by kernel_rfl
theorem fok100 : funOk Try.f100 = true := by kernel_rfl
theorem fok101 : funOk Try.f101 = true := by kernel_rfl
theorem fok102 : funOk Try.f102 = true := by kernel_rfl
theorem fok103 : funOk Try.f103 = true := by kernel_rfl
theorem fok104 : funOk Try.f104 = true := by kernel_rfl
theorem fok105 : funOk Try.f105 = true := by kernel_rfl
theorem fok106 : funOk Try.f106 = true := by kernel_rfl
theorem fok107 : funOk Try.f107 = true := by kernel_rfl

/-- The facts as one name. -/
def absF := (And.intro (And.intro (And.intro (And.intro (And.intro (And.intro (And.intro @ty25 @sz25) (And.intro @in25 @ty2)) (And.intro (And.intro @sz2 @in2) (And.intro @ty33 @sz33))) (And.intro (And.intro (And.intro @in33 @ty3) (And.intro @sz3 @in3)) (And.intro (And.intro @ty4 @sz4) (And.intro @in4 @ty30)))) (And.intro (And.intro (And.intro (And.intro @sz30 @in30) (And.intro @ty49 @sz49)) (And.intro (And.intro @in49 @ty23) (And.intro @sz23 @in23))) (And.intro (And.intro (And.intro @ty28 @sz28) (And.intro @in28 @ty57)) (And.intro (And.intro @sz57 @in57) (And.intro @ty70 @sz70))))) (And.intro (And.intro (And.intro (And.intro (And.intro @in70 @ty22) (And.intro @sz22 @in22)) (And.intro (And.intro @ty5 @sz5) (And.intro @in5 @ty72))) (And.intro (And.intro (And.intro @sz72 @in72) (And.intro @ty67 @sz67)) (And.intro (And.intro @in67 @ty76) (And.intro @sz76 @in76)))) (And.intro (And.intro (And.intro (And.intro @ty74 @sz74) (And.intro @in74 @ty79)) (And.intro (And.intro @sz79 @in79) (And.intro @ty95 @sz95))) (And.intro (And.intro (And.intro @in95 @ty98) (And.intro @sz98 @in98)) (And.intro (And.intro @ty103 @sz103) (And.intro @in103 (And.intro @ty107 @sz107))))))) (And.intro (And.intro (And.intro (And.intro (And.intro (And.intro @in107 @ty75) (And.intro @sz75 @in75)) (And.intro (And.intro @ty99 @sz99) (And.intro @in99 @ty119))) (And.intro (And.intro (And.intro @sz119 @in119) (And.intro @ty116 @sz116)) (And.intro (And.intro @in116 @ty105) (And.intro @sz105 @in105)))) (And.intro (And.intro (And.intro (And.intro @ty117 @sz117) (And.intro @in117 @zo30)) (And.intro (And.intro @zo2 @zo70) (And.intro @zo72 @zo67))) (And.intro (And.intro (And.intro @zo3 @zo76) (And.intro @zo74 @zo28)) (And.intro (And.intro @zo95 @zo98) (And.intro @zo22 @zo119))))) (And.intro (And.intro (And.intro (And.intro (And.intro @zo107 @eq25) (And.intro @eq30 @eq23)) (And.intro (And.intro @eq28 @eq22) (And.intro @eq74 @eq95))) (And.intro (And.intro (And.intro @eq107 @eq116) (And.intro @eq105 @eq117)) (And.intro (And.intro @el33 @el49) (And.intro @el67 @el57)))) (And.intro (And.intro (And.intro (And.intro @el79 @el103) (And.intro @ze2 @ze33)) (And.intro (And.intro @ze74 @ze3) (And.intro @ze5 @ze107))) (And.intro (And.intro (And.intro @ae23 @ae28) (And.intro @ae22 @ae72)) (And.intro (And.intro @ae74 @ae95) (And.intro @ae116 (And.intro @ae105 @ae117))))))))

end Go.Proofs.Ytjmenocghjggcaa
