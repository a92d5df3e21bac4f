/-
Facts of the loaded program that the abstract walk asks: the shapes of its types, and that its functions are in form. Printed by a program of this session (Facts.lean).
-/
import Derived.Test.YtcaadjjgggjefaaAbsQ
import Derived.Test.YtcaadjjgggjefaaRows
namespace Go.Proofs.Ytcaadjjgggjefaa
open Go Go.Abs
set_option linter.defProp false
set_option maxRecDepth 100000

theorem mix : Try.prog.follows .mixedOrders = true := by kernel_rfl
theorem ty25 : tyOf Try.prog 25 = .st [(0, 1), (1, 100)] 101 := by kernel_rfl
theorem sz25 : szOf Try.prog 25 = 101 := by kernel_rfl
theorem in25 : (Try.prog.info? 25).isSome = true := by kernel_rfl
theorem ty5 : tyOf Try.prog 5 = .int .u8 := by kernel_rfl
theorem sz5 : szOf Try.prog 5 = 1 := by kernel_rfl
theorem in5 : (Try.prog.info? 5).isSome = true := by kernel_rfl
theorem ty2 : tyOf Try.prog 2 = .int .i64 := by kernel_rfl
theorem sz2 : szOf Try.prog 2 = 1 := by kernel_rfl
theorem in2 : (Try.prog.info? 2).isSome = true := by kernel_rfl
theorem ty3 : tyOf Try.prog 3 = .int .i64 := by kernel_rfl
theorem sz3 : szOf Try.prog 3 = 1 := by kernel_rfl
theorem in3 : (Try.prog.info? 3).isSome = true := by kernel_rfl
theorem ty30 : tyOf Try.prog 30 = .st [(0, 1), (1, 100)] 101 := by kernel_rfl
theorem sz30 : szOf Try.prog 30 = 101 := by kernel_rfl
theorem in30 : (Try.prog.info? 30).isSome = true := by kernel_rfl
theorem ty33 : tyOf Try.prog 33 = .sl 1 8 := by kernel_rfl
theorem sz33 : szOf Try.prog 33 = 1 := by kernel_rfl
theorem in33 : (Try.prog.info? 33).isSome = true := by kernel_rfl
theorem ty4 : tyOf Try.prog 4 = .bool := by kernel_rfl
theorem sz4 : szOf Try.prog 4 = 1 := by kernel_rfl
theorem in4 : (Try.prog.info? 4).isSome = true := by kernel_rfl
theorem ty23 : tyOf Try.prog 23 = .arr 10 10 100 := by kernel_rfl
theorem sz23 : szOf Try.prog 23 = 100 := by kernel_rfl
theorem in23 : (Try.prog.info? 23).isSome = true := by kernel_rfl
theorem ty28 : tyOf Try.prog 28 = .arr 10 10 100 := by kernel_rfl
theorem sz28 : szOf Try.prog 28 = 100 := by kernel_rfl
theorem in28 : (Try.prog.info? 28).isSome = true := by kernel_rfl
theorem ty64 : tyOf Try.prog 64 = .sl 1 1 := by kernel_rfl
theorem sz64 : szOf Try.prog 64 = 1 := by kernel_rfl
theorem in64 : (Try.prog.info? 64).isSome = true := by kernel_rfl
theorem ty43 : tyOf Try.prog 43 = .sl 1 24 := by kernel_rfl
theorem sz43 : szOf Try.prog 43 = 1 := by kernel_rfl
theorem in43 : (Try.prog.info? 43).isSome = true := by kernel_rfl
theorem ty68 : tyOf Try.prog 68 = .sl 1 8 := by kernel_rfl
theorem sz68 : szOf Try.prog 68 = 1 := by kernel_rfl
theorem in68 : (Try.prog.info? 68).isSome = true := by kernel_rfl
theorem ty70 : tyOf Try.prog 70 = .int .i64 := by kernel_rfl
theorem sz70 : szOf Try.prog 70 = 1 := by kernel_rfl
theorem in70 : (Try.prog.info? 70).isSome = true := by kernel_rfl
theorem ty22 : tyOf Try.prog 22 = .arr 10 1 10 := by kernel_rfl
theorem sz22 : szOf Try.prog 22 = 10 := by kernel_rfl
theorem in22 : (Try.prog.info? 22).isSome = true := by kernel_rfl
theorem ty92 : tyOf Try.prog 92 = .arr 9 9 81 := by kernel_rfl
theorem sz92 : szOf Try.prog 92 = 81 := by kernel_rfl
theorem in92 : (Try.prog.info? 92).isSome = true := by kernel_rfl
theorem ty91 : tyOf Try.prog 91 = .arr 9 1 9 := by kernel_rfl
theorem sz91 : szOf Try.prog 91 = 9 := by kernel_rfl
theorem in91 : (Try.prog.info? 91).isSome = true := by kernel_rfl
theorem ty96 : tyOf Try.prog 96 = .arr 9 9 81 := by kernel_rfl
theorem sz96 : szOf Try.prog 96 = 81 := by kernel_rfl
theorem in96 : (Try.prog.info? 96).isSome = true := by kernel_rfl
theorem ty99 : tyOf Try.prog 99 = .arr 10 1 10 := by kernel_rfl
theorem sz99 : szOf Try.prog 99 = 10 := by kernel_rfl
theorem in99 : (Try.prog.info? 99).isSome = true := by kernel_rfl
theorem ty77 : tyOf Try.prog 77 = .st [(0, 10), (10, 10), (20, 10)] 30 := by kernel_rfl
theorem sz77 : szOf Try.prog 77 = 30 := by kernel_rfl
theorem in77 : (Try.prog.info? 77).isSome = true := by kernel_rfl
theorem ty75 : tyOf Try.prog 75 = .arr 10 1 10 := by kernel_rfl
theorem sz75 : szOf Try.prog 75 = 10 := by kernel_rfl
theorem in75 : (Try.prog.info? 75).isSome = true := by kernel_rfl
theorem ty133 : tyOf Try.prog 133 = .arr 9 9 81 := by kernel_rfl
theorem sz133 : szOf Try.prog 133 = 81 := by kernel_rfl
theorem in133 : (Try.prog.info? 133).isSome = true := by kernel_rfl
theorem ty132 : tyOf Try.prog 132 = .arr 9 1 9 := by kernel_rfl
theorem sz132 : szOf Try.prog 132 = 9 := by kernel_rfl
theorem in132 : (Try.prog.info? 132).isSome = true := by kernel_rfl
theorem ty95 : tyOf Try.prog 95 = .arr 9 1 9 := by kernel_rfl
theorem sz95 : szOf Try.prog 95 = 9 := by kernel_rfl
theorem in95 : (Try.prog.info? 95).isSome = true := by kernel_rfl
theorem ty9 : tyOf Try.prog 9 = .str := by kernel_rfl
theorem sz9 : szOf Try.prog 9 = 1 := by kernel_rfl
theorem in9 : (Try.prog.info? 9).isSome = true := by kernel_rfl
theorem ty106 : tyOf Try.prog 106 = .arr 3 1 3 := by kernel_rfl
theorem sz106 : szOf Try.prog 106 = 3 := by kernel_rfl
theorem in106 : (Try.prog.info? 106).isSome = true := by kernel_rfl
theorem ty141 : tyOf Try.prog 141 = .sc := by kernel_rfl
theorem sz141 : szOf Try.prog 141 = 1 := by kernel_rfl
theorem in141 : (Try.prog.info? 141).isSome = true := by kernel_rfl
theorem ty142 : tyOf Try.prog 142 = .arr 2 3 6 := by kernel_rfl
theorem sz142 : szOf Try.prog 142 = 6 := by kernel_rfl
theorem in142 : (Try.prog.info? 142).isSome = true := by kernel_rfl
theorem ty116 : tyOf Try.prog 116 = .sc := by kernel_rfl
theorem sz116 : szOf Try.prog 116 = 1 := by kernel_rfl
theorem in116 : (Try.prog.info? 116).isSome = true := by kernel_rfl
theorem zo30 : zeroOf Try.prog 30 = some [(0, .ints .i64 1 [0]), (1, .ints .u8 100 (List.replicate 100 0))] := by kernel_rfl
theorem zo5 : zeroOf Try.prog 5 = some [(0, .ints .u8 1 [0])] := by kernel_rfl
theorem zo92 : zeroOf Try.prog 92 = some [(0, .ints .i64 81 (List.replicate 81 0))] := by kernel_rfl
theorem zo96 : zeroOf Try.prog 96 = some [(0, .ints .u8 81 (List.replicate 81 0))] := by kernel_rfl
theorem zo99 : zeroOf Try.prog 99 = some [(0, .bools 10 (List.replicate 10 false))] := by kernel_rfl
theorem zo28 : zeroOf Try.prog 28 = some [(0, .ints .u8 100 (List.replicate 100 0))] := by kernel_rfl
theorem zo70 : zeroOf Try.prog 70 = some [(0, .ints .i64 1 [0])] := by kernel_rfl
theorem zo77 : zeroOf Try.prog 77 = some [(0, .ints .u8 10 (List.replicate 10 0)), (10, .ints .u8 10 (List.replicate 10 0)), (20, .ints .u8 10 (List.replicate 10 0))] := by kernel_rfl
theorem zo75 : zeroOf Try.prog 75 = some [(0, .ints .u8 10 (List.replicate 10 0))] := by kernel_rfl
theorem zo133 : zeroOf Try.prog 133 = some [(0, .bools 81 (List.replicate 81 false))] := by kernel_rfl
theorem zo22 : zeroOf Try.prog 22 = some [(0, .ints .u8 10 (List.replicate 10 0))] := by kernel_rfl
theorem zo106 : zeroOf Try.prog 106 = some [(0, .ints .u8 3 (List.replicate 3 0))] := by kernel_rfl
theorem zo141 : zeroOf Try.prog 141 = some [(0, .cells 1 [.nilf])] := by kernel_rfl
theorem zo142 : zeroOf Try.prog 142 = some [(0, .ints .u8 6 (List.replicate 6 0))] := by kernel_rfl
theorem eq25 : eqTy Try.prog 25 [(.int .i64, 1), (.int .u8, 100)] = true := by kernel_rfl
theorem eq30 : eqTy Try.prog 30 [(.int .i64, 1), (.int .u8, 100)] = true := by kernel_rfl
theorem eq23 : eqTy Try.prog 23 [(.int .u8, 100)] = true := by kernel_rfl
theorem eq28 : eqTy Try.prog 28 [(.int .u8, 100)] = true := by kernel_rfl
theorem eq22 : eqTy Try.prog 22 [(.int .u8, 10)] = true := by kernel_rfl
theorem eq92 : eqTy Try.prog 92 [(.int .i64, 81)] = true := by kernel_rfl
theorem eq91 : eqTy Try.prog 91 [(.int .i64, 9)] = true := by kernel_rfl
theorem eq96 : eqTy Try.prog 96 [(.int .u8, 81)] = true := by kernel_rfl
theorem eq99 : eqTy Try.prog 99 [(.bool, 10)] = true := by kernel_rfl
theorem eq77 : eqTy Try.prog 77 [(.int .u8, 10), (.int .u8, 10), (.int .u8, 10)] = true := by kernel_rfl
theorem eq75 : eqTy Try.prog 75 [(.int .u8, 10)] = true := by kernel_rfl
theorem eq133 : eqTy Try.prog 133 [(.bool, 81)] = true := by kernel_rfl
theorem eq132 : eqTy Try.prog 132 [(.bool, 9)] = true := by kernel_rfl
theorem eq95 : eqTy Try.prog 95 [(.int .u8, 9)] = true := by kernel_rfl
theorem eq106 : eqTy Try.prog 106 [(.int .u8, 3)] = true := by kernel_rfl
theorem eq142 : eqTy Try.prog 142 [(.int .u8, 6)] = true := by kernel_rfl
theorem el33 : elOf Try.prog 33 = 2 := by kernel_rfl
theorem el43 : elOf Try.prog 43 = 33 := by kernel_rfl
theorem el64 : elOf Try.prog 64 = 5 := by kernel_rfl
theorem el68 : elOf Try.prog 68 = 70 := by kernel_rfl
theorem ze2 : zeroEl Try.prog 2 = some (.ints .i64 1) := by kernel_rfl
theorem ze33 : zeroEl Try.prog 33 = some (.cells .nils) := by kernel_rfl
theorem ze5 : zeroEl Try.prog 5 = some (.ints .u8 1) := by kernel_rfl
theorem ze70 : zeroEl Try.prog 70 = some (.ints .i64 1) := by kernel_rfl
theorem ae23 : arrEl Try.prog 23 = 22 := by kernel_rfl
theorem ae28 : arrEl Try.prog 28 = 22 := by kernel_rfl
theorem ae22 : arrEl Try.prog 22 = 5 := by kernel_rfl
theorem ae92 : arrEl Try.prog 92 = 91 := by kernel_rfl
theorem ae91 : arrEl Try.prog 91 = 2 := by kernel_rfl
theorem ae96 : arrEl Try.prog 96 = 95 := by kernel_rfl
theorem ae99 : arrEl Try.prog 99 = 4 := by kernel_rfl
theorem ae75 : arrEl Try.prog 75 = 5 := by kernel_rfl
theorem ae133 : arrEl Try.prog 133 = 132 := by kernel_rfl
theorem ae132 : arrEl Try.prog 132 = 4 := by kernel_rfl
theorem ae95 : arrEl Try.prog 95 = 5 := by kernel_rfl
theorem ae106 : arrEl Try.prog 106 = 5 := by kernel_rfl
theorem ae142 : arrEl Try.prog 142 = 106 := by kernel_rfl
theorem fok3 : funOk Try.f3 = true := by kernel_rfl
theorem fok4 : funOk Try.f4 = true := by kernel_rfl
theorem fok5 : funOk Try.f5 = true := by kernel_rfl
theorem fok6 : funOk Try.f6 = true := by kernel_rfl
theorem fok7 : funOk Try.f7 = true := by kernel_rfl
theorem fok8 : funOk Try.f8 = true := by kernel_rfl
theorem fok9 : funOk Try.f9 = true := by kernel_rfl
theorem fok10 : funOk Try.f10 = true := by kernel_rfl
theorem fok11 : funOk Try.f11 = true := by kernel_rfl
theorem fok12 : funOk Try.f12 = true := by kernel_rfl
theorem fok13 : funOk Try.f13 = true := by kernel_rfl
theorem fok14 : funOk Try.f14 = true := by kernel_rfl
theorem fok15 : funOk Try.f15 = true := by kernel_rfl
theorem fok16 : funOk Try.f16 = true := by kernel_rfl
theorem fok17 : funOk Try.f17 = true := by kernel_rfl
theorem fok18 : funOk Try.f18 = true := by kernel_rfl
theorem fok19 : funOk Try.f19 = true := by kernel_rfl
theorem fok20 : funOk Try.f20 = true := by kernel_rfl
theorem fok21 : funOk Try.f21 = true := by kernel_rfl
theorem fok22 : funOk Try.f22 = true := by kernel_rfl
theorem fok23 : funOk Try.f23 = true := by kernel_rfl
theorem fok24 : funOk Try.f24 = true := by kernel_rfl
theorem fok25 : funOk Try.f25 = true := by kernel_rfl
theorem fok26 : funOk Try.f26 = true := by kernel_rfl
theorem fok27 : funOk Try.f27 = true := by kernel_rfl
theorem fok28 : funOk Try.f28 = true := by kernel_rfl
theorem fok29 : funOk Try.f29 = true := by kernel_rfl
theorem fok30 : funOk Try.f30 = true := by kernel_rfl
theorem fok31 : funOk Try.f31 = true := by kernel_rfl
theorem fok32 : funOk Try.f32 = true := by kernel_rfl
theorem fok33 : funOk Try.f33 = true := by kernel_rfl
theorem fok34 : funOk Try.f34 = true := by kernel_rfl
theorem fok35 : funOk Try.f35 = true := by kernel_rfl
theorem fok36 : funOk Try.f36 = true := by kernel_rfl
theorem fok37 : funOk Try.f37 = true := by kernel_rfl
theorem fok38 : funOk Try.f38 = true := by kernel_rfl
theorem fok39 : funOk Try.f39 = true := by kernel_rfl
theorem fok40 : funOk Try.f40 = true := by kernel_rfl
theorem fok41 : funOk Try.f41 = true := by kernel_rfl
theorem fok42 : funOk Try.f42 = true := by kernel_rfl
theorem fok43 : funOk Try.f43 = true := by kernel_rfl
theorem fok44 : funOk Try.f44 = true := by kernel_rfl
theorem fok45 : funOk Try.f45 = true := by kernel_rfl
theorem fok46 : funOk Try.f46 = true := by kernel_rfl
theorem fok47 : funOk Try.f47 = true := by kernel_rfl
theorem fok48 : funOk Try.f48 = true := by kernel_rfl
theorem fok49 : funOk Try.f49 = true := by kernel_rfl
theorem fok50 : funOk Try.f50 = true := by kernel_rfl
theorem fok51 : funOk Try.f51 = true := by kernel_rfl
theorem fok52 : funOk Try.f52 = true := by kernel_rfl
theorem fok53 : funOk Try.f53 = true := by kernel_rfl
theorem fok54 : funOk Try.f54 = true := by kernel_rfl
theorem fok55 : funOk Try.f55 = true := by kernel_rfl
theorem fok56 : funOk Try.f56 = true := by kernel_rfl
theorem fok57 : funOk Try.f57 = true := by kernel_rfl
theorem fok58 : funOk Try.f58 = true := by kernel_rfl
theorem fok59 : funOk Try.f59 = true := by kernel_rfl
theorem fok60 : funOk Try.f60 = true := by kernel_rfl
theorem fok61 : funOk Try.f61 = true := by kernel_rfl
theorem fok62 : funOk Try.f62 = true := by kernel_rfl
theorem fok63 : funOk Try.f63 = true := by kernel_rfl
theorem fok64 : funOk Try.f64 = true := by kernel_rfl
theorem fok65 : funOk Try.f65 = true := by kernel_rfl
theorem fok66 : funOk Try.f66 = true := by kernel_rfl
theorem fok67 : funOk Try.f67 = true := by kernel_rfl
theorem fok68 : funOk Try.f68 = true := by kernel_rfl
theorem fok69 : funOk Try.f69 = true := by kernel_rfl
theorem fok70 : funOk Try.f70 = true := by kernel_rfl
theorem fok71 : funOk Try.f71 = true := by kernel_rfl
theorem fok72 : funOk Try.f72 = true := by kernel_rfl
theorem fok73 : funOk Try.f73 = true := by kernel_rfl
theorem fok74 : funOk Try.f74 = true := by kernel_rfl
theorem fok75 : funOk Try.f75 = true := by kernel_rfl
theorem fok76 : funOk Try.f76 = true := by kernel_rfl
theorem fok77 : funOk Try.f77 = true := by kernel_rfl
theorem fok78 : funOk Try.f78 = true := by kernel_rfl
theorem fok79 : funOk Try.f79 = true := by kernel_rfl
theorem fok80 : funOk Try.f80 = true := by kernel_rfl
theorem fok81 : funOk Try.f81 = true := by kernel_rfl
theorem fok82 : funOk Try.f82 = true := by kernel_rfl
theorem fok83 : funOk Try.f83 = true := by kernel_rfl
theorem fok84 : funOk Try.f84 = true := by kernel_rfl
theorem fok85 : funOk Try.f85 = true := by kernel_rfl
theorem fok86 : funOk Try.f86 = true := by kernel_rfl
theorem fok87 : funOk Try.f87 = true := by kernel_rfl
theorem fok88 : funOk Try.f88 = true := by kernel_rfl
theorem fok89 : funOk Try.f89 = true := by kernel_rfl
theorem fok90 : funOk Try.f90 = true := by kernel_rfl
theorem fok91 : funOk Try.f91 = true := by kernel_rfl
theorem fok92 : funOk Try.f92 = true := by kernel_rfl
theorem fok93 : funOk Try.f93 = true := by kernel_rfl
theorem fok94 : funOk Try.f94 = true := by kernel_rfl
theorem fok95 : funOk Try.f95 = true := by kernel_rfl
theorem fok96 : funOk Try.f96 = true := by kernel_rfl
theorem fok97 : funOk Try.f97 = true := by kernel_rfl
theorem fok98 : funOk Try.f98 = true := by kernel_rfl
theorem fok99 : funOk Try.f99 = true := by kernel_rfl
theorem fok100 : funOk Try.f100 = true := by kernel_rfl
theorem fok101 : funOk Try.f101 = true := by kernel_rfl
theorem fok102 : funOk Try.f102 = true := by kernel_rfl
theorem fok103 : funOk Try.f103 = true := by kernel_rfl
theorem fok104 : funOk Try.f104 = true := by kernel_rfl
theorem fok105 : funOk Try.f105 = true := by kernel_rfl
theorem fok106 : funOk Try.f106 = true := by kernel_rfl
theorem fok107 : funOk Try.f107 = true := by kernel_rfl
theorem fok108 : funOk Try.f108 = true := by kernel_rfl
theorem fok109 : funOk Try.f109 = true := by kernel_rfl
theorem fok110 : funOk Try.f110 = true := by kernel_rfl
theorem fok111 : funOk Try.f111 = true := by kernel_rfl
theorem fok112 : funOk Try.f112 = true := by kernel_rfl
theorem fok113 : funOk Try.f113 = true := by kernel_rfl
theorem fok114 : funOk Try.f114 = true := by kernel_rfl
theorem fok115 : funOk Try.f115 = true := by kernel_rfl
theorem fok116 : funOk Try.f116 = true := by kernel_rfl
theorem fok117 : funOk Try.f117 = true := by kernel_rfl
theorem fok118 : funOk Try.f118 = true := by kernel_rfl
theorem fok119 : funOk Try.f119 = true := by kernel_rfl
theorem fok120 : funOk Try.f120 = true := by kernel_rfl
theorem fok121 : funOk Try.f121 = true := by kernel_rfl
theorem fok122 : funOk Try.f122 = true := by kernel_rfl
theorem fok123 : funOk Try.f123 = true := by kernel_rfl
theorem fok124 : funOk Try.f124 = true := by kernel_rfl
theorem fok125 : funOk Try.f125 = true := by kernel_rfl
theorem fok126 : funOk Try.f126 = true := by kernel_rfl
theorem fok127 : funOk Try.f127 = true := by kernel_rfl
theorem fok128 : funOk Try.f128 = true := by kernel_rfl
theorem fok129 : funOk Try.f129 = true := by kernel_rfl
theorem fok130 : funOk Try.f130 = true := by kernel_rfl
theorem fok131 : funOk Try.f131 = true := by kernel_rfl
theorem fok132 : funOk Try.f132 = true := by kernel_rfl
theorem fok133 : funOk Try.f133 = true := by kernel_rfl
theorem fok134 : funOk Try.f134 = true := by kernel_rfl
theorem fok135 : funOk Try.f135 = true := by kernel_rfl
theorem fok136 : funOk Try.f136 = true := by kernel_rfl
theorem fok137 : funOk Try.f137 = true := by kernel_rfl
theorem fok138 : funOk Try.f138 = true := by kernel_rfl
theorem fok139 : funOk Try.f139 = true := by kernel_rfl
theorem fok140 : funOk Try.f140 = true := by kernel_rfl
theorem fok141 : funOk Try.f141 = true := by kernel_rfl
theorem fok142 : funOk Try.f142 = true := by kernel_rfl
theorem fok143 : funOk Try.f143 = true := by kernel_rfl
theorem fok144 : funOk Try.f144 = true := by kernel_rfl
theorem fok146 : funOk Try.f146 = true := by kernel_rfl
theorem fok147 : funOk Try.f147 = true := by kernel_rfl
theorem fok148 : funOk Try.f148 = true := by kernel_rfl
theorem fok149 : funOk Try.f149 = true := by kernel_rfl
theorem fok150 : funOk Try.f150 = true := by kernel_rfl
theorem fok151 : funOk Try.f151 = true := by kernel_rfl
theorem fok152 : funOk Try.f152 = true := by kernel_rfl
theorem fok153 : funOk Try.f153 = true := by kernel_rfl

/-- The facts as one name. -/
def absF := (And.intro (And.intro (And.intro (And.intro (And.intro (And.intro (And.intro @ty25 @sz25) (And.intro @in25 @ty5)) (And.intro (And.intro @sz5 @in5) (And.intro @ty2 @sz2))) (And.intro (And.intro (And.intro @in2 @ty3) (And.intro @sz3 @in3)) (And.intro (And.intro @ty30 @sz30) (And.intro @in30 @ty33)))) (And.intro (And.intro (And.intro (And.intro @sz33 @in33) (And.intro @ty4 @sz4)) (And.intro (And.intro @in4 @ty23) (And.intro @sz23 @in23))) (And.intro (And.intro (And.intro @ty28 @sz28) (And.intro @in28 @ty64)) (And.intro (And.intro @sz64 @in64) (And.intro @ty43 (And.intro @sz43 @in43)))))) (And.intro (And.intro (And.intro (And.intro (And.intro @ty68 @sz68) (And.intro @in68 @ty70)) (And.intro (And.intro @sz70 @in70) (And.intro @ty22 @sz22))) (And.intro (And.intro (And.intro @in22 @ty92) (And.intro @sz92 @in92)) (And.intro (And.intro @ty91 @sz91) (And.intro @in91 (And.intro @ty96 @sz96))))) (And.intro (And.intro (And.intro (And.intro @in96 @ty99) (And.intro @sz99 @in99)) (And.intro (And.intro @ty77 @sz77) (And.intro @in77 @ty75))) (And.intro (And.intro (And.intro @sz75 @in75) (And.intro @ty133 @sz133)) (And.intro (And.intro @in133 @ty132) (And.intro @sz132 (And.intro @in132 @ty95))))))) (And.intro (And.intro (And.intro (And.intro (And.intro (And.intro @sz95 @in95) (And.intro @ty9 @sz9)) (And.intro (And.intro @in9 @ty106) (And.intro @sz106 @in106))) (And.intro (And.intro (And.intro @ty141 @sz141) (And.intro @in141 @ty142)) (And.intro (And.intro @sz142 @in142) (And.intro @ty116 (And.intro @sz116 @in116))))) (And.intro (And.intro (And.intro (And.intro @zo30 @zo5) (And.intro @zo92 @zo96)) (And.intro (And.intro @zo99 @zo28) (And.intro @zo70 @zo77))) (And.intro (And.intro (And.intro @zo75 @zo133) (And.intro @zo22 @zo106)) (And.intro (And.intro @zo141 @zo142) (And.intro @eq25 (And.intro @eq30 @eq23)))))) (And.intro (And.intro (And.intro (And.intro (And.intro @eq28 @eq22) (And.intro @eq92 @eq91)) (And.intro (And.intro @eq96 @eq99) (And.intro @eq77 @eq75))) (And.intro (And.intro (And.intro @eq133 @eq132) (And.intro @eq95 @eq106)) (And.intro (And.intro @eq142 @el33) (And.intro @el43 (And.intro @el64 @el68))))) (And.intro (And.intro (And.intro (And.intro @ze2 @ze33) (And.intro @ze5 @ze70)) (And.intro (And.intro @ae23 @ae28) (And.intro @ae22 @ae92))) (And.intro (And.intro (And.intro @ae91 @ae96) (And.intro @ae99 @ae75)) (And.intro (And.intro @ae133 @ae132) (And.intro @ae95 (And.intro @ae106 @ae142))))))))

end Go.Proofs.Ytcaadjjgggjefaa
