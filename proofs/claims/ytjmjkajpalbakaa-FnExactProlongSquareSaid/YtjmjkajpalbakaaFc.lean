/-
Facts of the loaded program that the abstract walk asks: the shapes of its types, and that its functions are in form. Printed by a program of this session (Facts.lean).
-/
import Derived.Test.YtjmjkajpalbakaaAbsQ
import Derived.Test.YtjmjkajpalbakaaRows
namespace Go.Proofs.Ytjmjkajpalbakaa
open Go Go.Abs
set_option linter.unusedVariables false
set_option linter.unusedSectionVars false
set_option linter.unusedSimpArgs false
set_option linter.defProp false
set_option maxRecDepth 100000

theorem mix : Try.prog.follows .mixedOrders = true := by kernel_rfl
theorem ty25 : tyOf Try.prog 25 = .st [(0, 1), (1, 100)] 101 := by kernel_rfl
theorem sz25 : szOf Try.prog 25 = 101 := by kernel_rfl
theorem in25 : (Try.prog.info? 25).isSome = true := by kernel_rfl
theorem ty2 : tyOf Try.prog 2 = .int .i64 := by kernel_rfl
theorem sz2 : szOf Try.prog 2 = 1 := by kernel_rfl
theorem in2 : (Try.prog.info? 2).isSome = true := by kernel_rfl
theorem ty3 : tyOf Try.prog 3 = .int .i64 := by kernel_rfl
theorem sz3 : szOf Try.prog 3 = 1 := by kernel_rfl
theorem in3 : (Try.prog.info? 3).isSome = true := by kernel_rfl
theorem ty37 : tyOf Try.prog 37 = .st [(0, 10), (10, 10), (20, 10)] 30 := by kernel_rfl
theorem sz37 : szOf Try.prog 37 = 30 := by kernel_rfl
theorem in37 : (Try.prog.info? 37).isSome = true := by kernel_rfl
theorem ty31 : tyOf Try.prog 31 = .st [(0, 1), (1, 100)] 101 := by kernel_rfl
theorem sz31 : szOf Try.prog 31 = 101 := by kernel_rfl
theorem in31 : (Try.prog.info? 31).isSome = true := by kernel_rfl
theorem ty46 : tyOf Try.prog 46 = .sl 1 8 := by kernel_rfl
theorem sz46 : szOf Try.prog 46 = 1 := by kernel_rfl
theorem in46 : (Try.prog.info? 46).isSome = true := by kernel_rfl
theorem ty22 : tyOf Try.prog 22 = .arr 10 1 10 := by kernel_rfl
theorem sz22 : szOf Try.prog 22 = 10 := by kernel_rfl
theorem in22 : (Try.prog.info? 22).isSome = true := by kernel_rfl
theorem ty23 : tyOf Try.prog 23 = .arr 10 10 100 := by kernel_rfl
theorem sz23 : szOf Try.prog 23 = 100 := by kernel_rfl
theorem in23 : (Try.prog.info? 23).isSome = true := by kernel_rfl
theorem ty29 : tyOf Try.prog 29 = .arr 10 10 100 := by kernel_rfl
theorem sz29 : szOf Try.prog 29 = 100 := by kernel_rfl
theorem in29 : (Try.prog.info? 29).isSome = true := by kernel_rfl
theorem ty26 : tyOf Try.prog 26 = .sl 10 10 := by kernel_rfl
theorem sz26 : szOf Try.prog 26 = 1 := by kernel_rfl
theorem in26 : (Try.prog.info? 26).isSome = true := by kernel_rfl
theorem ty40 : tyOf Try.prog 40 = .arr 10 1 10 := by kernel_rfl
theorem sz40 : szOf Try.prog 40 = 10 := by kernel_rfl
theorem in40 : (Try.prog.info? 40).isSome = true := by kernel_rfl
theorem ty5 : tyOf Try.prog 5 = .int .u8 := by kernel_rfl
theorem sz5 : szOf Try.prog 5 = 1 := by kernel_rfl
theorem in5 : (Try.prog.info? 5).isSome = true := by kernel_rfl
theorem ty42 : tyOf Try.prog 42 = .st [(0, 10), (10, 10), (20, 10)] 30 := by kernel_rfl
theorem sz42 : szOf Try.prog 42 = 30 := by kernel_rfl
theorem in42 : (Try.prog.info? 42).isSome = true := by kernel_rfl
theorem ty57 : tyOf Try.prog 57 = .sl 1 24 := by kernel_rfl
theorem sz57 : szOf Try.prog 57 = 1 := by kernel_rfl
theorem in57 : (Try.prog.info? 57).isSome = true := by kernel_rfl
theorem ty78 : tyOf Try.prog 78 = .sl 1 1 := by kernel_rfl
theorem sz78 : szOf Try.prog 78 = 1 := by kernel_rfl
theorem in78 : (Try.prog.info? 78).isSome = true := by kernel_rfl
theorem ty85 : tyOf Try.prog 85 = .int .i64 := by kernel_rfl
theorem sz85 : szOf Try.prog 85 = 1 := by kernel_rfl
theorem in85 : (Try.prog.info? 85).isSome = true := by kernel_rfl
theorem ty92 : tyOf Try.prog 92 = .arr 10 1 10 := by kernel_rfl
theorem sz92 : szOf Try.prog 92 = 10 := by kernel_rfl
theorem in92 : (Try.prog.info? 92).isSome = true := by kernel_rfl
theorem ty94 : tyOf Try.prog 94 = .sc := by kernel_rfl
theorem sz94 : szOf Try.prog 94 = 1 := by kernel_rfl
theorem in94 : (Try.prog.info? 94).isSome = true := by kernel_rfl
theorem ty4 : tyOf Try.prog 4 = .bool := by kernel_rfl
theorem sz4 : szOf Try.prog 4 = 1 := by kernel_rfl
theorem in4 : (Try.prog.info? 4).isSome = true := by kernel_rfl
theorem ty68 : tyOf Try.prog 68 = .sc := by kernel_rfl
theorem sz68 : szOf Try.prog 68 = 1 := by kernel_rfl
theorem in68 : (Try.prog.info? 68).isSome = true := by kernel_rfl
theorem zo31 : zeroOf Try.prog 31 = some [(0, .ints .i64 1 [0]), (1, .ints .u8 100 (List.replicate 100 0))] := by kernel_rfl
theorem zo26 : zeroOf Try.prog 26 = some [(0, .cells 1 [.nils])] := by kernel_rfl
theorem zo42 : zeroOf Try.prog 42 = some [(0, .ints .u8 10 (List.replicate 10 0)), (10, .ints .u8 10 (List.replicate 10 0)), (20, .ints .u8 10 (List.replicate 10 0))] := by kernel_rfl
theorem zo40 : zeroOf Try.prog 40 = some [(0, .ints .u8 10 (List.replicate 10 0))] := by kernel_rfl
theorem zo92 : zeroOf Try.prog 92 = some [(0, .bools 10 (List.replicate 10 false))] := by kernel_rfl
theorem zo29 : zeroOf Try.prog 29 = some [(0, .ints .u8 100 (List.replicate 100 0))] := by kernel_rfl
theorem zo94 : zeroOf Try.prog 94 = some [(0, .cells 1 [.nilf])] := by kernel_rfl
theorem zo22 : zeroOf Try.prog 22 = some [(0, .ints .u8 10 (List.replicate 10 0))] := by kernel_rfl
theorem eq25 : eqTy Try.prog 25 [(.int .i64, 1), (.int .u8, 100)] = true := by kernel_rfl
theorem eq37 : eqTy Try.prog 37 [(.int .u8, 10), (.int .u8, 10), (.int .u8, 10)] = true := by kernel_rfl
theorem eq31 : eqTy Try.prog 31 [(.int .i64, 1), (.int .u8, 100)] = true := by kernel_rfl
theorem eq22 : eqTy Try.prog 22 [(.int .u8, 10)] = true := by kernel_rfl
theorem eq23 : eqTy Try.prog 23 [(.int .u8, 100)] = true := by kernel_rfl
theorem eq29 : eqTy Try.prog 29 [(.int .u8, 100)] = true := by kernel_rfl
theorem eq40 : eqTy Try.prog 40 [(.int .u8, 10)] = true := by kernel_rfl
theorem eq42 : eqTy Try.prog 42 [(.int .u8, 10), (.int .u8, 10), (.int .u8, 10)] = true := by kernel_rfl
theorem eq92 : eqTy Try.prog 92 [(.bool, 10)] = true := by kernel_rfl
theorem el26 : elOf Try.prog 26 = 40 := by kernel_rfl
theorem el57 : elOf Try.prog 57 = 46 := by kernel_rfl
theorem el46 : elOf Try.prog 46 = 2 := by kernel_rfl
theorem el78 : elOf Try.prog 78 = 5 := by kernel_rfl
theorem ze40 : zeroEl Try.prog 40 = some (.ints .u8 10) := by kernel_rfl
theorem ze46 : zeroEl Try.prog 46 = some (.cells .nils) := by kernel_rfl
theorem ze2 : zeroEl Try.prog 2 = some (.ints .i64 1) := by kernel_rfl
theorem ze5 : zeroEl Try.prog 5 = some (.ints .u8 1) := by kernel_rfl
theorem ae22 : arrEl Try.prog 22 = 5 := by kernel_rfl
theorem ae23 : arrEl Try.prog 23 = 22 := by kernel_rfl
theorem ae29 : arrEl Try.prog 29 = 22 := by kernel_rfl
theorem ae40 : arrEl Try.prog 40 = 5 := by kernel_rfl
theorem ae92 : arrEl Try.prog 92 = 4 := by kernel_rfl
theorem fok3 : funOk Try.f3 = true := by kernel_rfl
theorem fok4 : funOk Try.f4 = true := by kernel_rfl
theorem fok5 : funOk Try.f5 = true := by kernel_rfl
theorem fok6 : funOk Try.f6 = true := by kernel_rfl
theorem fok7 : funOk Try.f7 = true := by kernel_rfl
theorem fok8 : funOk Try.f8 = true := by kernel_rfl
theorem fok9 : funOk Try.f9 = true := by kernel_rfl
theorem fok10 : funOk Try.f10 = true := by kernel_rfl
theorem fok11 : funOk Try.f11 = true := by kernel_rfl
theorem fok12 : funOk Try.f12 = true := by kernel_rfl
theorem fok13 : funOk Try.f13 = true := by kernel_rfl
theorem fok14 : funOk Try.f14 = true := by kernel_rfl
theorem fok15 : funOk Try.f15 = true := by kernel_rfl
theorem fok16 : funOk Try.f16 = true := by kernel_rfl
theorem fok17 : funOk Try.f17 = true := by kernel_rfl
theorem fok18 : funOk Try.f18 = true := by kernel_rfl
theorem fok19 : funOk Try.f19 = true := by kernel_rfl
theorem fok20 : funOk Try.f20 = true := by kernel_rfl
theorem fok21 : funOk Try.f21 = true := by kernel_rfl
theorem fok22 : funOk Try.f22 = true := by kernel_rfl
theorem fok23 : funOk Try.f23 = true := by kernel_rfl
theorem fok24 : funOk Try.f24 = true := by kernel_rfl
theorem fok25 : funOk Try.f25 = true := by kernel_rfl
theorem fok26 : funOk Try.f26 = true := by kernel_rfl
theorem fok27 : funOk Try.f27 = true := by kernel_rfl
theorem fok28 : funOk Try.f28 = true := by kernel_rfl
theorem fok29 : funOk Try.f29 = true := by kernel_rfl
theorem fok30 : funOk Try.f30 = true := by kernel_rfl
theorem fok31 : funOk Try.f31 = true := by kernel_rfl
theorem fok32 : funOk Try.f32 = true := by kernel_rfl
theorem fok33 : funOk Try.f33 = true := by kernel_rfl
theorem fok34 : funOk Try.f34 = true := by kernel_rfl
theorem fok35 : funOk Try.f35 = true := by kernel_rfl
theorem fok36 : funOk Try.f36 = true := by kernel_rfl
theorem fok37 : funOk Try.f37 = true := by kernel_rfl
theorem fok38 : funOk Try.f38 = true := by kernel_rfl
theorem fok39 : funOk Try.f39 = true := by kernel_rfl
theorem fok40 : funOk Try.f40 = true := by kernel_rfl
theorem fok41 : funOk Try.f41 = true := by kernel_rfl
theorem fok42 : funOk Try.f42 = true := by kernel_rfl
theorem fok43 : funOk Try.f43 = true := by kernel_rfl
theorem fok44 : funOk Try.f44 = true := by kernel_rfl
theorem fok45 : funOk Try.f45 = true := by kernel_rfl
theorem fok46 : funOk Try.f46 = true := by kernel_rfl
theorem fok47 : funOk Try.f47 = true := by kernel_rfl
theorem fok48 : funOk Try.f48 = true := by kernel_rfl
theorem fok49 : funOk Try.f49 = true := by kernel_rfl
theorem fok50 : funOk Try.f50 = true := by kernel_rfl
theorem fok51 : funOk Try.f51 = true := by kernel_rfl
theorem fok52 : funOk Try.f52 = true := by kernel_rfl
theorem fok53 : funOk Try.f53 = true := by kernel_rfl
theorem fok54 : funOk Try.f54 = true := by kernel_rfl
theorem fok55 : funOk Try.f55 = true := by kernel_rfl
theorem fok56 : funOk Try.f56 = true := by kernel_rfl
theorem fok57 : funOk Try.f57 = true := by kernel_rfl
theorem fok58 : funOk Try.f58 = true := by kernel_rfl
theorem fok59 : funOk Try.f59 = true := by kernel_rfl
theorem fok60 : funOk Try.f60 = true := by kernel_rfl
theorem fok61 : funOk Try.f61 = true := by kernel_rfl
theorem fok62 : funOk Try.f62 = true := by kernel_rfl
theorem fok63 : funOk Try.f63 = true := by kernel_rfl
theorem fok64 : funOk Try.f64 = true := by kernel_rfl
theorem fok65 : funOk Try.f65 = true := by kernel_rfl
theorem fok66 : funOk Try.f66 = true := by kernel_rfl
theorem fok67 : funOk Try.f67 = true := by kernel_rfl
theorem fok68 : funOk Try.f68 = true := by kernel_rfl
theorem fok69 : funOk Try.f69 = true := by kernel_rfl
theorem fok70 : funOk Try.f70 = true := by kernel_rfl
theorem fok71 : funOk Try.f71 = true := by kernel_rfl
theorem fok72 : funOk Try.f72 = true := by kernel_rfl
theorem fok73 : funOk Try.f73 = true := by kernel_rfl
theorem fok74 : funOk Try.f74 = true := by kernel_rfl
theorem fok75 : funOk Try.f75 = true := by kernel_rfl
theorem fok76 : funOk Try.f76 = true := by kernel_rfl
theorem fok77 : funOk Try.f77 = true := by kernel_rfl
theorem fok78 : funOk Try.f78 = true := by kernel_rfl
theorem fok79 : funOk Try.f79 = true := by kernel_rfl

/-- The facts as one name. -/
def absF := (And.intro (And.intro (And.intro (And.intro (And.intro (And.intro @ty25 @sz25) (And.intro @in25 (And.intro @ty2 @sz2))) (And.intro (And.intro @in2 (And.intro @ty3 @sz3)) (And.intro @in3 (And.intro @ty37 @sz37)))) (And.intro (And.intro (And.intro @in37 @ty31) (And.intro @sz31 (And.intro @in31 @ty46))) (And.intro (And.intro @sz46 (And.intro @in46 @ty22)) (And.intro @sz22 (And.intro @in22 @ty23))))) (And.intro (And.intro (And.intro (And.intro @sz23 @in23) (And.intro @ty29 (And.intro @sz29 @in29))) (And.intro (And.intro @ty26 (And.intro @sz26 @in26)) (And.intro @ty40 (And.intro @sz40 @in40)))) (And.intro (And.intro (And.intro @ty5 (And.intro @sz5 @in5)) (And.intro @ty42 (And.intro @sz42 @in42))) (And.intro (And.intro @ty57 (And.intro @sz57 @in57)) (And.intro @ty78 (And.intro @sz78 @in78)))))) (And.intro (And.intro (And.intro (And.intro (And.intro @ty85 @sz85) (And.intro @in85 (And.intro @ty92 @sz92))) (And.intro (And.intro @in92 (And.intro @ty94 @sz94)) (And.intro @in94 (And.intro @ty4 @sz4)))) (And.intro (And.intro (And.intro @in4 @ty68) (And.intro @sz68 (And.intro @in68 @zo31))) (And.intro (And.intro @zo26 (And.intro @zo42 @zo40)) (And.intro @zo92 (And.intro @zo29 @zo94))))) (And.intro (And.intro (And.intro (And.intro @zo22 @eq25) (And.intro @eq37 (And.intro @eq31 @eq22))) (And.intro (And.intro @eq23 (And.intro @eq29 @eq40)) (And.intro @eq42 (And.intro @eq92 @el26)))) (And.intro (And.intro (And.intro @el57 (And.intro @el46 @el78)) (And.intro @ze40 (And.intro @ze46 @ze2))) (And.intro (And.intro @ze5 (And.intro @ae22 @ae23)) (And.intro @ae29 (And.intro @ae40 @ae92)))))))

end Go.Proofs.Ytjmjkajpalbakaa
