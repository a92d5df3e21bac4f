/-
Facts of the loaded program that the abstract walk asks: the shapes of its types, and that its functions are in form. Printed by a program of this session (Facts.lean).
-/
import Derived.Test.YtoccbgffekhcaaaAbsQ
import Derived.Test.YtoccbgffekhcaaaRows
namespace Go.Proofs.Ytoccbgffekhcaaa
open Go Go.Abs
set_option linter.defProp false
set_option maxRecDepth 100000

theorem mix : Try.prog.follows .mixedOrders = true := by kernel_rfl
theorem ty26 : tyOf Try.prog 26 = .sl 1 8 := by kernel_rfl
theorem sz26 : szOf Try.prog 26 = 1 := by kernel_rfl
theorem in26 : (Try.prog.info? 26).isSome = true := by kernel_rfl
theorem ty3 : tyOf Try.prog 3 = .int .i64 := by kernel_rfl
theorem sz3 : szOf Try.prog 3 = 1 := by kernel_rfl
theorem in3 : (Try.prog.info? 3).isSome = true := by kernel_rfl
theorem ty25 : tyOf Try.prog 25 = .st [(0, 1), (1, 100)] 101 := by kernel_rfl
theorem sz25 : szOf Try.prog 25 = 101 := by kernel_rfl
theorem in25 : (Try.prog.info? 25).isSome = true := by kernel_rfl
theorem ty4 : tyOf Try.prog 4 = .bool := by kernel_rfl
theorem sz4 : szOf Try.prog 4 = 1 := by kernel_rfl
theorem in4 : (Try.prog.info? 4).isSome = true := by kernel_rfl
theorem ty2 : tyOf Try.prog 2 = .int .i64 := by kernel_rfl
theorem sz2 : szOf Try.prog 2 = 1 := by kernel_rfl
theorem in2 : (Try.prog.info? 2).isSome = true := by kernel_rfl
theorem ty50 : tyOf Try.prog 50 = .sl 1 1 := by kernel_rfl
theorem sz50 : szOf Try.prog 50 = 1 := by kernel_rfl
theorem in50 : (Try.prog.info? 50).isSome = true := by kernel_rfl
theorem ty5 : tyOf Try.prog 5 = .int .u8 := by kernel_rfl
theorem sz5 : szOf Try.prog 5 = 1 := by kernel_rfl
theorem in5 : (Try.prog.info? 5).isSome = true := by kernel_rfl
theorem ty57 : tyOf Try.prog 57 = .st [(0, 1), (1, 1)] 2 := by kernel_rfl
theorem sz57 : szOf Try.prog 57 = 2 := by kernel_rfl
theorem in57 : (Try.prog.info? 57).isSome = true := by kernel_rfl
theorem ty60 : tyOf Try.prog 60 = .st [(0, 1), (1, 1)] 2 := by kernel_rfl
theorem sz60 : szOf Try.prog 60 = 2 := by kernel_rfl
theorem in60 : (Try.prog.info? 60).isSome = true := by kernel_rfl
theorem ty31 : tyOf Try.prog 31 = .st [(0, 1), (1, 100)] 101 := by kernel_rfl
theorem sz31 : szOf Try.prog 31 = 101 := by kernel_rfl
theorem in31 : (Try.prog.info? 31).isSome = true := by kernel_rfl
theorem ty23 : tyOf Try.prog 23 = .arr 10 10 100 := by kernel_rfl
theorem sz23 : szOf Try.prog 23 = 100 := by kernel_rfl
theorem in23 : (Try.prog.info? 23).isSome = true := by kernel_rfl
theorem ty29 : tyOf Try.prog 29 = .arr 10 10 100 := by kernel_rfl
theorem sz29 : szOf Try.prog 29 = 100 := by kernel_rfl
theorem in29 : (Try.prog.info? 29).isSome = true := by kernel_rfl
theorem ty91 : tyOf Try.prog 91 = .arr 2 1 2 := by kernel_rfl
theorem sz91 : szOf Try.prog 91 = 2 := by kernel_rfl
theorem in91 : (Try.prog.info? 91).isSome = true := by kernel_rfl
theorem ty92 : tyOf Try.prog 92 = .sl 2 16 := by kernel_rfl
theorem sz92 : szOf Try.prog 92 = 1 := by kernel_rfl
theorem in92 : (Try.prog.info? 92).isSome = true := by kernel_rfl
theorem ty41 : tyOf Try.prog 41 = .sl 1 24 := by kernel_rfl
theorem sz41 : szOf Try.prog 41 = 1 := by kernel_rfl
theorem in41 : (Try.prog.info? 41).isSome = true := by kernel_rfl
theorem ty22 : tyOf Try.prog 22 = .arr 10 1 10 := by kernel_rfl
theorem sz22 : szOf Try.prog 22 = 10 := by kernel_rfl
theorem in22 : (Try.prog.info? 22).isSome = true := by kernel_rfl
theorem ty109 : tyOf Try.prog 109 = .arr 3 1 3 := by kernel_rfl
theorem sz109 : szOf Try.prog 109 = 3 := by kernel_rfl
theorem in109 : (Try.prog.info? 109).isSome = true := by kernel_rfl
theorem ty106 : tyOf Try.prog 106 = .sc := by kernel_rfl
theorem sz106 : szOf Try.prog 106 = 1 := by kernel_rfl
theorem in106 : (Try.prog.info? 106).isSome = true := by kernel_rfl
theorem ty65 : tyOf Try.prog 65 = .sl 10 10 := by kernel_rfl
theorem sz65 : szOf Try.prog 65 = 1 := by kernel_rfl
theorem in65 : (Try.prog.info? 65).isSome = true := by kernel_rfl
theorem ty121 : tyOf Try.prog 121 = .arr 10 1 10 := by kernel_rfl
theorem sz121 : szOf Try.prog 121 = 10 := by kernel_rfl
theorem in121 : (Try.prog.info? 121).isSome = true := by kernel_rfl
theorem ty126 : tyOf Try.prog 126 = .st [(0, 1), (1, 1), (2, 100), (102, 1)] 103 := by kernel_rfl
theorem sz126 : szOf Try.prog 126 = 103 := by kernel_rfl
theorem in126 : (Try.prog.info? 126).isSome = true := by kernel_rfl
theorem ty128 : tyOf Try.prog 128 = .arr 10 1 10 := by kernel_rfl
theorem sz128 : szOf Try.prog 128 = 10 := by kernel_rfl
theorem in128 : (Try.prog.info? 128).isSome = true := by kernel_rfl
theorem ty99 : tyOf Try.prog 99 = .sc := by kernel_rfl
theorem sz99 : szOf Try.prog 99 = 1 := by kernel_rfl
theorem in99 : (Try.prog.info? 99).isSome = true := by kernel_rfl
theorem ty78 : tyOf Try.prog 78 = .int .i64 := by kernel_rfl
theorem sz78 : szOf Try.prog 78 = 1 := by kernel_rfl
theorem in78 : (Try.prog.info? 78).isSome = true := by kernel_rfl
theorem ty138 : tyOf Try.prog 138 = .arr 10 1 10 := by kernel_rfl
theorem sz138 : szOf Try.prog 138 = 10 := by kernel_rfl
theorem in138 : (Try.prog.info? 138).isSome = true := by kernel_rfl
theorem ty89 : tyOf Try.prog 89 = .arr 10 1 10 := by kernel_rfl
theorem sz89 : szOf Try.prog 89 = 10 := by kernel_rfl
theorem in89 : (Try.prog.info? 89).isSome = true := by kernel_rfl
theorem ty94 : tyOf Try.prog 94 = .sl 1 8 := by kernel_rfl
theorem sz94 : szOf Try.prog 94 = 1 := by kernel_rfl
theorem in94 : (Try.prog.info? 94).isSome = true := by kernel_rfl
theorem ty148 : tyOf Try.prog 148 = .sl 111 120 := by kernel_rfl
theorem sz148 : szOf Try.prog 148 = 1 := by kernel_rfl
theorem in148 : (Try.prog.info? 148).isSome = true := by kernel_rfl
theorem ty152 : tyOf Try.prog 152 = .st [(0, 1), (1, 10), (11, 100)] 111 := by kernel_rfl
theorem sz152 : szOf Try.prog 152 = 111 := by kernel_rfl
theorem in152 : (Try.prog.info? 152).isSome = true := by kernel_rfl
theorem ty156 : tyOf Try.prog 156 = .arr 9 9 81 := by kernel_rfl
theorem sz156 : szOf Try.prog 156 = 81 := by kernel_rfl
theorem in156 : (Try.prog.info? 156).isSome = true := by kernel_rfl
theorem ty162 : tyOf Try.prog 162 = .arr 3 100 300 := by kernel_rfl
theorem sz162 : szOf Try.prog 162 = 300 := by kernel_rfl
theorem in162 : (Try.prog.info? 162).isSome = true := by kernel_rfl
theorem ty163 : tyOf Try.prog 163 = .arr 40 1 40 := by kernel_rfl
theorem sz163 : szOf Try.prog 163 = 40 := by kernel_rfl
theorem in163 : (Try.prog.info? 163).isSome = true := by kernel_rfl
theorem ty167 : tyOf Try.prog 167 = .sc := by kernel_rfl
theorem sz167 : szOf Try.prog 167 = 1 := by kernel_rfl
theorem in167 : (Try.prog.info? 167).isSome = true := by kernel_rfl
theorem ty181 : tyOf Try.prog 181 = .st [(0, 1), (1, 10), (11, 1000), (1011, 100)] 1111 := by kernel_rfl
theorem sz181 : szOf Try.prog 181 = 1111 := by kernel_rfl
theorem in181 : (Try.prog.info? 181).isSome = true := by kernel_rfl
theorem ty178 : tyOf Try.prog 178 = .arr 10 100 1000 := by kernel_rfl
theorem sz178 : szOf Try.prog 178 = 1000 := by kernel_rfl
theorem in178 : (Try.prog.info? 178).isSome = true := by kernel_rfl
theorem ty150 : tyOf Try.prog 150 = .arr 10 10 100 := by kernel_rfl
theorem sz150 : szOf Try.prog 150 = 100 := by kernel_rfl
theorem in150 : (Try.prog.info? 150).isSome = true := by kernel_rfl
theorem ty179 : tyOf Try.prog 179 = .arr 10 10 100 := by kernel_rfl
theorem sz179 : szOf Try.prog 179 = 100 := by kernel_rfl
theorem in179 : (Try.prog.info? 179).isSome = true := by kernel_rfl
theorem ty185 : tyOf Try.prog 185 = .arr 9 9 81 := by kernel_rfl
theorem sz185 : szOf Try.prog 185 = 81 := by kernel_rfl
theorem in185 : (Try.prog.info? 185).isSome = true := by kernel_rfl
theorem ty184 : tyOf Try.prog 184 = .arr 9 1 9 := by kernel_rfl
theorem sz184 : szOf Try.prog 184 = 9 := by kernel_rfl
theorem in184 : (Try.prog.info? 184).isSome = true := by kernel_rfl
theorem ty189 : tyOf Try.prog 189 = .arr 9 9 81 := by kernel_rfl
theorem sz189 : szOf Try.prog 189 = 81 := by kernel_rfl
theorem in189 : (Try.prog.info? 189).isSome = true := by kernel_rfl
theorem ty188 : tyOf Try.prog 188 = .arr 9 1 9 := by kernel_rfl
theorem sz188 : szOf Try.prog 188 = 9 := by kernel_rfl
theorem in188 : (Try.prog.info? 188).isSome = true := by kernel_rfl
theorem ty155 : tyOf Try.prog 155 = .arr 9 1 9 := by kernel_rfl
theorem sz155 : szOf Try.prog 155 = 9 := by kernel_rfl
theorem in155 : (Try.prog.info? 155).isSome = true := by kernel_rfl
theorem ty122 : tyOf Try.prog 122 = .sc := by kernel_rfl
theorem sz122 : szOf Try.prog 122 = 1 := by kernel_rfl
theorem in122 : (Try.prog.info? 122).isSome = true := by kernel_rfl
theorem zo60 : zeroOf Try.prog 60 = some [(0, .cells 1 [.nils]), (1, .cells 1 [.nils])] := by kernel_rfl
theorem zo31 : zeroOf Try.prog 31 = some [(0, .ints .i64 1 [0]), (1, .ints .u8 100 (List.replicate 100 0))] := by kernel_rfl
theorem zo91 : zeroOf Try.prog 91 = some [(0, .ints .i64 2 (List.replicate 2 0))] := by kernel_rfl
theorem zo109 : zeroOf Try.prog 109 = some [(0, .ints .u8 3 (List.replicate 3 0))] := by kernel_rfl
theorem zo2 : zeroOf Try.prog 2 = some [(0, .ints .i64 1 [0])] := by kernel_rfl
theorem zo106 : zeroOf Try.prog 106 = some [(0, .cells 1 [.nilp])] := by kernel_rfl
theorem zo65 : zeroOf Try.prog 65 = some [(0, .cells 1 [.nils])] := by kernel_rfl
theorem zo126 : zeroOf Try.prog 126 = some [(0, .ints .i64 1 [0]), (1, .cells 1 [.nils]), (2, .ints .u8 100 (List.replicate 100 0)), (102, .ints .i64 1 [0])] := by kernel_rfl
theorem zo128 : zeroOf Try.prog 128 = some [(0, .cells 10 [.nils, .nils, .nils, .nils, .nils, .nils, .nils, .nils, .nils, .nils])] := by kernel_rfl
theorem zo3 : zeroOf Try.prog 3 = some [(0, .ints .i64 1 [0])] := by kernel_rfl
theorem zo99 : zeroOf Try.prog 99 = some [(0, .cells 1 [.nilf])] := by kernel_rfl
theorem zo121 : zeroOf Try.prog 121 = some [(0, .ints .u8 10 (List.replicate 10 0))] := by kernel_rfl
theorem zo29 : zeroOf Try.prog 29 = some [(0, .ints .u8 100 (List.replicate 100 0))] := by kernel_rfl
theorem zo138 : zeroOf Try.prog 138 = some [(0, .bools 10 (List.replicate 10 false))] := by kernel_rfl
theorem zo78 : zeroOf Try.prog 78 = some [(0, .ints .i64 1 [0])] := by kernel_rfl
theorem zo89 : zeroOf Try.prog 89 = some [(0, .ints .i64 10 (List.replicate 10 0))] := by kernel_rfl
theorem zo156 : zeroOf Try.prog 156 = some [(0, .ints .u8 81 (List.replicate 81 0))] := by kernel_rfl
theorem zo162 : zeroOf Try.prog 162 = some [(0, .ints .u8 300 (List.replicate 300 0))] := by kernel_rfl
theorem zo163 : zeroOf Try.prog 163 = some [(0, .ints .u8 40 (List.replicate 40 0))] := by kernel_rfl
theorem zo26 : zeroOf Try.prog 26 = some [(0, .cells 1 [.nils])] := by kernel_rfl
theorem zo167 : zeroOf Try.prog 167 = some [(0, .cells 1 [.nilf])] := by kernel_rfl
theorem zo22 : zeroOf Try.prog 22 = some [(0, .ints .u8 10 (List.replicate 10 0))] := by kernel_rfl
theorem zo181 : zeroOf Try.prog 181 = some [(0, .ints .i64 1 [0]), (1, .cells 10 [.nils, .nils, .nils, .nils, .nils, .nils, .nils, .nils, .nils, .nils]), (11, .ints .u8 1000 (List.replicate 1000 0)), (1011, .bools 100 (List.replicate 100 false))] := by kernel_rfl
theorem zo185 : zeroOf Try.prog 185 = some [(0, .ints .i64 81 (List.replicate 81 0))] := by kernel_rfl
theorem zo189 : zeroOf Try.prog 189 = some [(0, .bools 81 (List.replicate 81 false))] := by kernel_rfl
theorem zo152 : zeroOf Try.prog 152 = some [(0, .ints .i64 1 [0]), (1, .bools 10 (List.replicate 10 false)), (11, .ints .u8 100 (List.replicate 100 0))] := by kernel_rfl
theorem eq25 : eqTy Try.prog 25 [(.int .i64, 1), (.int .u8, 100)] = true := by kernel_rfl
theorem eq31 : eqTy Try.prog 31 [(.int .i64, 1), (.int .u8, 100)] = true := by kernel_rfl
theorem eq23 : eqTy Try.prog 23 [(.int .u8, 100)] = true := by kernel_rfl
theorem eq29 : eqTy Try.prog 29 [(.int .u8, 100)] = true := by kernel_rfl
theorem eq91 : eqTy Try.prog 91 [(.int .i64, 2)] = true := by kernel_rfl
theorem eq22 : eqTy Try.prog 22 [(.int .u8, 10)] = true := by kernel_rfl
theorem eq109 : eqTy Try.prog 109 [(.int .u8, 3)] = true := by kernel_rfl
theorem eq121 : eqTy Try.prog 121 [(.int .u8, 10)] = true := by kernel_rfl
theorem eq138 : eqTy Try.prog 138 [(.bool, 10)] = true := by kernel_rfl
theorem eq89 : eqTy Try.prog 89 [(.int .i64, 10)] = true := by kernel_rfl
theorem eq152 : eqTy Try.prog 152 [(.int .i64, 1), (.bool, 10), (.int .u8, 100)] = true := by kernel_rfl
theorem eq156 : eqTy Try.prog 156 [(.int .u8, 81)] = true := by kernel_rfl
theorem eq162 : eqTy Try.prog 162 [(.int .u8, 300)] = true := by kernel_rfl
theorem eq163 : eqTy Try.prog 163 [(.int .u8, 40)] = true := by kernel_rfl
theorem eq178 : eqTy Try.prog 178 [(.int .u8, 1000)] = true := by kernel_rfl
theorem eq150 : eqTy Try.prog 150 [(.int .u8, 100)] = true := by kernel_rfl
theorem eq179 : eqTy Try.prog 179 [(.bool, 100)] = true := by kernel_rfl
theorem eq185 : eqTy Try.prog 185 [(.int .i64, 81)] = true := by kernel_rfl
theorem eq184 : eqTy Try.prog 184 [(.int .i64, 9)] = true := by kernel_rfl
theorem eq189 : eqTy Try.prog 189 [(.bool, 81)] = true := by kernel_rfl
theorem eq188 : eqTy Try.prog 188 [(.bool, 9)] = true := by kernel_rfl
theorem eq155 : eqTy Try.prog 155 [(.int .u8, 9)] = true := by kernel_rfl
theorem el26 : elOf Try.prog 26 = 2 := by kernel_rfl
theorem el92 : elOf Try.prog 92 = 91 := by kernel_rfl
theorem el50 : elOf Try.prog 50 = 5 := by kernel_rfl
theorem el41 : elOf Try.prog 41 = 26 := by kernel_rfl
theorem el65 : elOf Try.prog 65 = 121 := by kernel_rfl
theorem el94 : elOf Try.prog 94 = 2 := by kernel_rfl
theorem el148 : elOf Try.prog 148 = 152 := by kernel_rfl
theorem ze2 : zeroEl Try.prog 2 = some (.ints .i64 1) := by kernel_rfl
theorem ze91 : zeroEl Try.prog 91 = some (.ints .i64 2) := by kernel_rfl
theorem ze5 : zeroEl Try.prog 5 = some (.ints .u8 1) := by kernel_rfl
theorem ze26 : zeroEl Try.prog 26 = some (.cells .nils) := by kernel_rfl
theorem ze121 : zeroEl Try.prog 121 = some (.ints .u8 10) := by kernel_rfl
-- zeroEl 152: none
theorem ae23 : arrEl Try.prog 23 = 22 := by kernel_rfl
theorem ae29 : arrEl Try.prog 29 = 22 := by kernel_rfl
theorem ae91 : arrEl Try.prog 91 = 2 := by kernel_rfl
theorem ae22 : arrEl Try.prog 22 = 5 := by kernel_rfl
theorem ae109 : arrEl Try.prog 109 = 5 := by kernel_rfl
theorem ae121 : arrEl Try.prog 121 = 5 := by kernel_rfl
theorem ae128 : arrEl Try.prog 128 = 65 := by kernel_rfl
theorem ae138 : arrEl Try.prog 138 = 4 := by kernel_rfl
theorem ae89 : arrEl Try.prog 89 = 2 := by kernel_rfl
theorem ae156 : arrEl Try.prog 156 = 155 := by kernel_rfl
theorem ae162 : arrEl Try.prog 162 = 29 := by kernel_rfl
theorem ae163 : arrEl Try.prog 163 = 5 := by kernel_rfl
theorem ae178 : arrEl Try.prog 178 = 150 := by kernel_rfl
theorem ae150 : arrEl Try.prog 150 = 121 := by kernel_rfl
theorem ae179 : arrEl Try.prog 179 = 138 := by kernel_rfl
theorem ae185 : arrEl Try.prog 185 = 184 := by kernel_rfl
theorem ae184 : arrEl Try.prog 184 = 2 := by kernel_rfl
theorem ae189 : arrEl Try.prog 189 = 188 := by kernel_rfl
theorem ae188 : arrEl Try.prog 188 = 4 := by kernel_rfl
theorem ae155 : arrEl Try.prog 155 = 5 := by kernel_rfl
theorem fok3 : funOk Try.f3 = true := by kernel_rfl
theorem fok4 : funOk Try.f4 = true := by kernel_rfl
theorem fok5 : funOk Try.f5 = true := by kernel_rfl
theorem fok6 : funOk Try.f6 = true := by kernel_rfl
theorem fok7 : funOk Try.f7 = true := by kernel_rfl
theorem fok8 : funOk Try.f8 = true := by kernel_rfl
theorem fok9 : funOk Try.f9 = true := by kernel_rfl
theorem fok10 : funOk Try.f10 = true := by kernel_rfl
theorem fok11 : funOk Try.f11 = true := by kernel_rfl
theorem fok12 : funOk Try.f12 = true := by kernel_rfl
theorem fok13 : funOk Try.f13 = true := by kernel_rfl
theorem fok14 : funOk Try.f14 = true := by kernel_rfl
theorem fok15 : funOk Try.f15 = true := by kernel_rfl
theorem fok16 : funOk Try.f16 = true := by kernel_rfl
theorem fok17 : funOk Try.f17 = true := by kernel_rfl
theorem fok18 : funOk Try.f18 = true := by kernel_rfl
theorem fok19 : funOk Try.f19 = true := by kernel_rfl
theorem fok20 : funOk Try.f20 = true := by kernel_rfl
theorem fok21 : funOk Try.f21 = true := by kernel_rfl
theorem fok22 : funOk Try.f22 = true := by kernel_rfl
theorem fok23 : funOk Try.f23 = true := by kernel_rfl
theorem fok24 : funOk Try.f24 = true := by kernel_rfl
theorem fok25 : funOk Try.f25 = true := by kernel_rfl
theorem fok26 : funOk Try.f26 = true := by kernel_rfl
theorem fok27 : funOk Try.f27 = true := by kernel_rfl
theorem fok28 : funOk Try.f28 = true := by kernel_rfl
theorem fok29 : funOk Try.f29 = true := by kernel_rfl
theorem fok30 : funOk Try.f30 = true := by kernel_rfl
theorem fok31 : funOk Try.f31 = true := by kernel_rfl
theorem fok32 : funOk Try.f32 = true := by kernel_rfl
theorem fok33 : funOk Try.f33 = true := by kernel_rfl
theorem fok34 : funOk Try.f34 = true := by kernel_rfl
theorem fok35 : funOk Try.f35 = true := by kernel_rfl
theorem fok36 : funOk Try.f36 = true := by kernel_rfl
theorem fok37 : funOk Try.f37 = true := by kernel_rfl
theorem fok38 : funOk Try.f38 = true := by kernel_rfl
theorem fok39 : funOk Try.f39 = true := by kernel_rfl
theorem fok40 : funOk Try.f40 = true := by kernel_rfl
theorem fok41 : funOk Try.f41 = true := by kernel_rfl
theorem fok42 : funOk Try.f42 = true := by kernel_rfl
theorem fok43 : funOk Try.f43 = true := by kernel_rfl
theorem fok44 : funOk Try.f44 = true := by kernel_rfl
theorem fok45 : funOk Try.f45 = true := by kernel_rfl
theorem fok46 : funOk Try.f46 = true := by kernel_rfl
theorem fok47 : funOk Try.f47 = true := by kernel_rfl
theorem fok48 : funOk Try.f48 = true := by kernel_rfl
theorem fok49 : funOk Try.f49 = true := by kernel_rfl
theorem fok50 : funOk Try.f50 = true := by kernel_rfl
theorem fok51 : funOk Try.f51 = true := by kernel_rfl
theorem fok52 : funOk Try.f52 = true := by kernel_rfl
theorem fok53 : funOk Try.f53 = true := by kernel_rfl
theorem fok54 : funOk Try.f54 = true := by kernel_rfl
theorem fok55 : funOk Try.f55 = true := by kernel_rfl
theorem fok56 : funOk Try.f56 = true := by kernel_rfl
theorem fok57 : funOk Try.f57 = true := by kernel_rfl
theorem fok58 : funOk Try.f58 = true := by kernel_rfl
theorem fok59 : funOk Try.f59 = true := by kernel_rfl
theorem fok60 : funOk Try.f60 = true := by kernel_rfl
theorem fok61 : funOk Try.f61 = true := by kernel_rfl
theorem fok62 : funOk Try.f62 = true := by kernel_rfl
theorem fok63 : funOk Try.f63 = true := by kernel_rfl
theorem fok64 : funOk Try.f64 = true := by kernel_rfl
theorem fok65 : funOk Try.f65 = true := by kernel_rfl
theorem fok66 : funOk Try.f66 = true := by kernel_rfl
theorem fok67 : funOk Try.f67 = true := by kernel_rfl
theorem fok68 : funOk Try.f68 = true := by kernel_rfl
theorem fok69 : funOk Try.f69 = true := by kernel_rfl
theorem fok70 : funOk Try.f70 = true := by kernel_rfl
theorem fok71 : funOk Try.f71 = true := by kernel_rfl
theorem fok72 : funOk Try.f72 = true := by kernel_rfl
theorem fok73 : funOk Try.f73 = true := by kernel_rfl
theorem fok74 : funOk Try.f74 = true := by kernel_rfl
theorem fok75 : funOk Try.f75 = true := by kernel_rfl
theorem fok76 : funOk Try.f76 = true := by kernel_rfl
theorem fok77 : funOk Try.f77 = true := by kernel_rfl
theorem fok78 : funOk Try.f78 = true := by kernel_rfl
theorem fok79 : funOk Try.f79 = true := by kernel_rfl
theorem fok80 : funOk Try.f80 = true := by kernel_rfl
theorem fok81 : funOk Try.f81 = true := by kernel_rfl
theorem fok82 : funOk Try.f82 = true := by kernel_rfl
theorem fok83 : funOk Try.f83 = true := by kernel_rfl
theorem fok84 : funOk Try.f84 = true := by kernel_rfl
theorem fok85 : funOk Try.f85 = true := by kernel_rfl
theorem fok86 : funOk Try.f86 = true := by kernel_rfl
theorem fok87 : funOk Try.f87 = true := by kernel_rfl
theorem fok88 : funOk Try.f88 = true := by kernel_rfl
theorem fok89 : funOk Try.f89 = true := by kernel_rfl
theorem fok90 : funOk Try.f90 = true := by kernel_rfl
theorem fok91 : funOk Try.f91 = true := by kernel_rfl
theorem fok92 : funOk Try.f92 = true := by kernel_rfl
theorem fok93 : funOk Try.f93 = true := by kernel_rfl
theorem fok94 : funOk Try.f94 = true := by kernel_rfl
theorem fok95 : funOk Try.f95 = true := by kernel_rfl
theorem fok96 : funOk Try.f96 = true := by kernel_rfl
theorem fok97 : funOk Try.f97 = true := by kernel_rfl
theorem fok98 : funOk Try.f98 = true := by kernel_rfl
theorem fok99 : funOk Try.f99 = true := by kernel_rfl
theorem fok100 : funOk Try.f100 = true := by kernel_rfl
theorem fok101 : funOk Try.f101 = true := by kernel_rfl
theorem fok102 : funOk Try.f102 = true := by kernel_rfl
theorem fok103 : funOk Try.f103 = true := by kernel_rfl
theorem fok104 : funOk Try.f104 = true := by kernel_rfl
theorem fok105 : funOk Try.f105 = true := by kernel_rfl
theorem fok106 : funOk Try.f106 = true := by kernel_rfl
theorem fok107 : funOk Try.f107 = true := by kernel_rfl
theorem fok108 : funOk Try.f108 = true := by kernel_rfl
theorem fok109 : funOk Try.f109 = true := by kernel_rfl
theorem fok110 : funOk Try.f110 = true := by kernel_rfl
theorem fok111 : funOk Try.f111 = true := by kernel_rfl
theorem fok112 : funOk Try.f112 = true := by kernel_rfl
theorem fok113 : funOk Try.f113 = true := by kernel_rfl
theorem fok114 : funOk Try.f114 = true := by kernel_rfl
theorem fok115 : funOk Try.f115 = true := by kernel_rfl
theorem fok116 : funOk Try.f116 = true := by kernel_rfl
theorem fok117 : funOk Try.f117 = true := by kernel_rfl
theorem fok118 : funOk Try.f118 = true := by kernel_rfl
theorem fok119 : funOk Try.f119 = true := by kernel_rfl
theorem fok120 : funOk Try.f120 = true := by kernel_rfl
theorem fok121 : funOk Try.f121 = true := by kernel_rfl
theorem fok122 : funOk Try.f122 = true := by kernel_rfl
theorem fok123 : funOk Try.f123 = true := by kernel_rfl
theorem fok124 : funOk Try.f124 = true := by kernel_rfl
theorem fok125 : funOk Try.f125 = true := by kernel_rfl
theorem fok126 : funOk Try.f126 = true := by kernel_rfl
theorem fok127 : funOk Try.f127 = true := by kernel_rfl
theorem fok128 : funOk Try.f128 = true := by kernel_rfl
theorem fok129 : funOk Try.f129 = true := by kernel_rfl
theorem fok130 : funOk Try.f130 = true := by kernel_rfl
theorem fok131 : funOk Try.f131 = true := by kernel_rfl
theorem fok132 : funOk Try.f132 = true := by kernel_rfl
theorem fok133 : funOk Try.f133 = true := by kernel_rfl
theorem fok134 : funOk Try.f134 = true := by kernel_rfl
theorem fok135 : funOk Try.f135 = true := by kernel_rfl
theorem fok136 : funOk Try.f136 = true := by kernel_rfl
theorem fok137 : funOk Try.f137 = true := by kernel_rfl
theorem fok138 : funOk Try.f138 = true := by kernel_rfl
theorem fok139 : funOk Try.f139 = true := by kernel_rfl
theorem fok140 : funOk Try.f140 = true := by kernel_rfl
theorem fok141 : funOk Try.f141 = true := by kernel_rfl
theorem fok142 : funOk Try.f142 = true := by kernel_rfl
theorem fok143 : funOk Try.f143 = true := by kernel_rfl
theorem fok144 : funOk Try.f144 = true := by kernel_rfl
theorem fok145 : funOk Try.f145 = true := by kernel_rfl
theorem fok146 : funOk Try.f146 = true := by kernel_rfl
theorem fok147 : funOk Try.f147 = true := by kernel_rfl
theorem fok148 : funOk Try.f148 = true := by kernel_rfl
theorem fok149 : funOk Try.f149 = true := by kernel_rfl
theorem fok150 : funOk Try.f150 = true := by kernel_rfl
theorem fok151 : funOk Try.f151 = true := by kernel_rfl
theorem fok152 : funOk Try.f152 = true := by kernel_rfl
theorem fok153 : funOk Try.f153 = true := by kernel_rfl
theorem fok154 : funOk Try.f154 = true := by kernel_rfl
theorem fok155 : funOk Try.f155 = true := by kernel_rfl
theorem fok156 : funOk Try.f156 = true := by kernel_rfl
theorem fok157 : funOk Try.f157 = true := by kernel_rfl
theorem fok158 : funOk Try.f158 = true := by kernel_rfl
theorem fok159 : funOk Try.f159 = true := by kernel_rfl
theorem fok160 : funOk Try.f160 = true := by kernel_rfl
theorem fok161 : funOk Try.f161 = true := by kernel_rfl
theorem fok162 : funOk Try.f162 = true := by kernel_rfl
theorem fok163 : funOk Try.f163 = true := by kernel_rfl
theorem fok164 : funOk Try.f164 = true := by kernel_rfl
theorem fok165 : funOk Try.f165 = true := by kernel_rfl
theorem fok166 : funOk Try.f166 = true := by kernel_rfl
theorem fok167 : funOk Try.f167 = true := by kernel_rfl
theorem fok168 : funOk Try.f168 = true := by kernel_rfl
theorem fok169 : funOk Try.f169 = true := by kernel_rfl
theorem fok170 : funOk Try.f170 = true := by kernel_rfl
theorem fok171 : funOk Try.f171 = true := by kernel_rfl
theorem fok172 : funOk Try.f172 = true := by kernel_rfl
theorem fok173 : funOk Try.f173 = true := by kernel_rfl
theorem fok174 : funOk Try.f174 = true := by kernel_rfl
theorem fok175 : funOk Try.f175 = true := by kernel_rfl
theorem fok176 : funOk Try.f176 = true := by kernel_rfl
theorem fok177 : funOk Try.f177 = true := by kernel_rfl
theorem fok178 : funOk Try.f178 = true := by kernel_rfl
theorem fok179 : funOk Try.f179 = true := by kernel_rfl
theorem fok180 : funOk Try.f180 = true := by kernel_rfl
theorem fok181 : funOk Try.f181 = true := by kernel_rfl
theorem fok182 : funOk Try.f182 = true := by kernel_rfl
theorem fok183 : funOk Try.f183 = true := by kernel_rfl
theorem fok184 : funOk Try.f184 = true := by kernel_rfl
theorem fok185 : funOk Try.f185 = true := by kernel_rfl
theorem fok186 : funOk Try.f186 = true := by kernel_rfl
theorem fok187 : funOk Try.f187 = true := by kernel_rfl
theorem fok188 : funOk Try.f188 = true := by kernel_rfl
theorem fok189 : funOk Try.f189 = true := by kernel_rfl
theorem fok190 : funOk Try.f190 = true := by kernel_rfl

/-- The facts as one name. -/
def absF := (And.intro (And.intro (And.intro (And.intro (And.intro (And.intro (And.intro @ty26 (And.intro @sz26 @in26)) (And.intro @ty3 (And.intro @sz3 @in3))) (And.intro (And.intro @ty25 (And.intro @sz25 @in25)) (And.intro (And.intro @ty4 @sz4) (And.intro @in4 @ty2)))) (And.intro (And.intro (And.intro @sz2 (And.intro @in2 @ty50)) (And.intro @sz50 (And.intro @in50 @ty5))) (And.intro (And.intro @sz5 (And.intro @in5 @ty57)) (And.intro (And.intro @sz57 @in57) (And.intro @ty60 @sz60))))) (And.intro (And.intro (And.intro (And.intro @in60 (And.intro @ty31 @sz31)) (And.intro @in31 (And.intro @ty23 @sz23))) (And.intro (And.intro @in23 (And.intro @ty29 @sz29)) (And.intro (And.intro @in29 @ty91) (And.intro @sz91 @in91)))) (And.intro (And.intro (And.intro @ty92 (And.intro @sz92 @in92)) (And.intro @ty41 (And.intro @sz41 @in41))) (And.intro (And.intro @ty22 (And.intro @sz22 @in22)) (And.intro (And.intro @ty109 @sz109) (And.intro @in109 @ty106)))))) (And.intro (And.intro (And.intro (And.intro (And.intro @sz106 (And.intro @in106 @ty65)) (And.intro @sz65 (And.intro @in65 @ty121))) (And.intro (And.intro @sz121 (And.intro @in121 @ty126)) (And.intro (And.intro @sz126 @in126) (And.intro @ty128 @sz128)))) (And.intro (And.intro (And.intro @in128 (And.intro @ty99 @sz99)) (And.intro @in99 (And.intro @ty78 @sz78))) (And.intro (And.intro @in78 (And.intro @ty138 @sz138)) (And.intro (And.intro @in138 @ty89) (And.intro @sz89 @in89))))) (And.intro (And.intro (And.intro (And.intro @ty94 (And.intro @sz94 @in94)) (And.intro @ty148 (And.intro @sz148 @in148))) (And.intro (And.intro @ty152 (And.intro @sz152 @in152)) (And.intro (And.intro @ty156 @sz156) (And.intro @in156 @ty162)))) (And.intro (And.intro (And.intro @sz162 (And.intro @in162 @ty163)) (And.intro @sz163 (And.intro @in163 @ty167))) (And.intro (And.intro @sz167 (And.intro @in167 @ty181)) (And.intro (And.intro @sz181 @in181) (And.intro @ty178 @sz178))))))) (And.intro (And.intro (And.intro (And.intro (And.intro (And.intro @in178 (And.intro @ty150 @sz150)) (And.intro @in150 (And.intro @ty179 @sz179))) (And.intro (And.intro @in179 (And.intro @ty185 @sz185)) (And.intro (And.intro @in185 @ty184) (And.intro @sz184 @in184)))) (And.intro (And.intro (And.intro @ty189 (And.intro @sz189 @in189)) (And.intro @ty188 (And.intro @sz188 @in188))) (And.intro (And.intro @ty155 (And.intro @sz155 @in155)) (And.intro (And.intro @ty122 @sz122) (And.intro @in122 @zo60))))) (And.intro (And.intro (And.intro (And.intro @zo31 (And.intro @zo91 @zo109)) (And.intro @zo2 (And.intro @zo106 @zo65))) (And.intro (And.intro @zo126 (And.intro @zo128 @zo3)) (And.intro (And.intro @zo99 @zo121) (And.intro @zo29 @zo138)))) (And.intro (And.intro (And.intro @zo78 (And.intro @zo89 @zo156)) (And.intro @zo162 (And.intro @zo163 @zo26))) (And.intro (And.intro @zo167 (And.intro @zo22 @zo181)) (And.intro (And.intro @zo185 @zo189) (And.intro @zo152 @eq25)))))) (And.intro (And.intro (And.intro (And.intro (And.intro @eq31 (And.intro @eq23 @eq29)) (And.intro @eq91 (And.intro @eq22 @eq109))) (And.intro (And.intro @eq121 (And.intro @eq138 @eq89)) (And.intro (And.intro @eq152 @eq156) (And.intro @eq162 @eq163)))) (And.intro (And.intro (And.intro @eq178 (And.intro @eq150 @eq179)) (And.intro @eq185 (And.intro @eq184 @eq189))) (And.intro (And.intro @eq188 (And.intro @eq155 @el26)) (And.intro (And.intro @el92 @el50) (And.intro @el41 @el65))))) (And.intro (And.intro (And.intro (And.intro @el94 (And.intro @el148 @ze2)) (And.intro @ze91 (And.intro @ze5 @ze26))) (And.intro (And.intro @ze121 (And.intro @ae23 @ae29)) (And.intro (And.intro @ae91 @ae22) (And.intro @ae109 @ae121)))) (And.intro (And.intro (And.intro @ae128 (And.intro @ae138 @ae89)) (And.intro (And.intro @ae156 @ae162) (And.intro @ae163 @ae178))) (And.intro (And.intro @ae150 (And.intro @ae179 @ae185)) (And.intro (And.intro @ae184 @ae189) (And.intro @ae188 @ae155))))))))

end Go.Proofs.Ytoccbgffekhcaaa
