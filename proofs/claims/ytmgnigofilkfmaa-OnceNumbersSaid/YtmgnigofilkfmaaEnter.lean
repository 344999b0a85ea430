/-
  Each named function of the translation is entered when it is called.
-/
import Derived.Test.YtmgnigofilkfmaaArr
namespace Go.Proofs.Ytmgnigofilkfmaa
set_option maxRecDepth 100000
open Go

theorem ent3 (args : Array Value) (w : World) : (callFunc 3 args).run Try.prog w = .ok (.enter 3 args) w := run_enter Try.func3 (by kernel_rfl) (by kernel_rfl) args w
theorem ent4 (args : Array Value) (w : World) : (callFunc 4 args).run Try.prog w = .ok (.enter 4 args) w := run_enter Try.func4 (by kernel_rfl) (by kernel_rfl) args w
theorem ent5 (args : Array Value) (w : World) : (callFunc 5 args).run Try.prog w = .ok (.enter 5 args) w := run_enter Try.func5 (by kernel_rfl) (by kernel_rfl) args w
theorem ent6 (args : Array Value) (w : World) : (callFunc 6 args).run Try.prog w = .ok (.enter 6 args) w := run_enter Try.func6 (by kernel_rfl) (by kernel_rfl) args w
theorem ent7 (args : Array Value) (w : World) : (callFunc 7 args).run Try.prog w = .ok (.enter 7 args) w := run_enter Try.func7 (by kernel_rfl) (by kernel_rfl) args w
theorem ent8 (args : Array Value) (w : World) : (callFunc 8 args).run Try.prog w = .ok (.enter 8 args) w := run_enter Try.func8 (by kernel_rfl) (by kernel_rfl) args w
theorem ent9 (args : Array Value) (w : World) : (callFunc 9 args).run Try.prog w = .ok (.enter 9 args) w := run_enter Try.func9 (by kernel_rfl) (by kernel_rfl) args w
theorem ent10 (args : Array Value) (w : World) : (callFunc 10 args).run Try.prog w = .ok (.enter 10 args) w := run_enter Try.func10 (by kernel_rfl) (by kernel_rfl) args w
theorem ent11 (args : Array Value) (w : World) : (callFunc 11 args).run Try.prog w = .ok (.enter 11 args) w := run_enter Try.func11 (by kernel_rfl) (by kernel_rfl) args w
theorem ent12 (args : Array Value) (w : World) : (callFunc 12 args).run Try.prog w = .ok (.enter 12 args) w := run_enter Try.func12 (by kernel_rfl) (by kernel_rfl) args w
theorem ent13 (args : Array Value) (w : World) : (callFunc 13 args).run Try.prog w = .ok (.enter 13 args) w := run_enter Try.func13 (by kernel_rfl) (by kernel_rfl) args w
theorem ent14 (args : Array Value) (w : World) : (callFunc 14 args).run Try.prog w = .ok (.enter 14 args) w := run_enter Try.func14 (by kernel_rfl) (by kernel_rfl) args w
theorem ent15 (args : Array Value) (w : World) : (callFunc 15 args).run Try.prog w = .ok (.enter 15 args) w := run_enter Try.func15 (by kernel_rfl) (by kernel_rfl) args w
theorem ent16 (args : Array Value) (w : World) : (callFunc 16 args).run Try.prog w = .ok (.enter 16 args) w := run_enter Try.func16 (by kernel_rfl) (by kernel_rfl) args w
theorem ent17 (args : Array Value) (w : World) : (callFunc 17 args).run Try.prog w = .ok (.enter 17 args) w := run_enter Try.func17 (by kernel_rfl) (by kernel_rfl) args w
theorem ent18 (args : Array Value) (w : World) : (callFunc 18 args).run Try.prog w = .ok (.enter 18 args) w := run_enter Try.func18 (by kernel_rfl) (by kernel_rfl) args w
theorem ent19 (args : Array Value) (w : World) : (callFunc 19 args).run Try.prog w = .ok (.enter 19 args) w := run_enter Try.func19 (by kernel_rfl) (by kernel_rfl) args w
theorem ent20 (args : Array Value) (w : World) : (callFunc 20 args).run Try.prog w = .ok (.enter 20 args) w := run_enter Try.func20 (by kernel_rfl) (by kernel_rfl) args w
theorem ent21 (args : Array Value) (w : World) : (callFunc 21 args).run Try.prog w = .ok (.enter 21 args) w := run_enter Try.func21 (by kernel_rfl) (by kernel_rfl) args w
theorem ent22 (args : Array Value) (w : World) : (callFunc 22 args).run Try.prog w = .ok (.enter 22 args) w := run_enter Try.func22 (by kernel_rfl) (by kernel_rfl) args w
theorem ent23 (args : Array Value) (w : World) : (callFunc 23 args).run Try.prog w = .ok (.enter 23 args) w := run_enter Try.func23 (by kernel_rfl) (by kernel_rfl) args w
theorem ent24 (args : Array Value) (w : World) : (callFunc 24 args).run Try.prog w = .ok (.enter 24 args) w := run_enter Try.func24 (by kernel_rfl) (by kernel_rfl) args w
theorem ent25 (args : Array Value) (w : World) : (callFunc 25 args).run Try.prog w = .ok (.enter 25 args) w := run_enter Try.func25 (by kernel_rfl) (by kernel_rfl) args w
theorem ent26 (args : Array Value) (w : World) : (callFunc 26 args).run Try.prog w = .ok (.enter 26 args) w := run_enter Try.func26 (by kernel_rfl) (by kernel_rfl) args w
theorem ent27 (args : Array Value) (w : World) : (callFunc 27 args).run Try.prog w = .ok (.enter 27 args) w := run_enter Try.func27 (by kernel_rfl) (by kernel_rfl) args w
theorem ent28 (args : Array Value) (w : World) : (callFunc 28 args).run Try.prog w = .ok (.enter 28 args) w := run_enter Try.func28 (by kernel_rfl) (by kernel_rfl) args w
theorem ent29 (args : Array Value) (w : World) : (callFunc 29 args).run Try.prog w = .ok (.enter 29 args) w := run_enter Try.func29 (by kernel_rfl) (by kernel_rfl) args w
theorem ent30 (args : Array Value) (w : World) : (callFunc 30 args).run Try.prog w = .ok (.enter 30 args) w := run_enter Try.func30 (by kernel_rfl) (by kernel_rfl) args w
theorem ent31 (args : Array Value) (w : World) : (callFunc 31 args).run Try.prog w = .ok (.enter 31 args) w := run_enter Try.func31 (by kernel_rfl) (by kernel_rfl) args w
theorem ent32 (args : Array Value) (w : World) : (callFunc 32 args).run Try.prog w = .ok (.enter 32 args) w := run_enter Try.func32 (by kernel_rfl) (by kernel_rfl) args w
theorem ent33 (args : Array Value) (w : World) : (callFunc 33 args).run Try.prog w = .ok (.enter 33 args) w := run_enter Try.func33 (by kernel_rfl) (by kernel_rfl) args w
theorem ent34 (args : Array Value) (w : World) : (callFunc 34 args).run Try.prog w = .ok (.enter 34 args) w := run_enter Try.func34 (by kernel_rfl) (by kernel_rfl) args w
theorem ent35 (args : Array Value) (w : World) : (callFunc 35 args).run Try.prog w = .ok (.enter 35 args) w := run_enter Try.func35 (by kernel_rfl) (by kernel_rfl) args w
theorem ent36 (args : Array Value) (w : World) : (callFunc 36 args).run Try.prog w = .ok (.enter 36 args) w := run_enter Try.func36 (by kernel_rfl) (by kernel_rfl) args w
theorem ent37 (args : Array Value) (w : World) : (callFunc 37 args).run Try.prog w = .ok (.enter 37 args) w := run_enter Try.func37 (by kernel_rfl) (by kernel_rfl) args w
theorem ent38 (args : Array Value) (w : World) : (callFunc 38 args).run Try.prog w = .ok (.enter 38 args) w := run_enter Try.func38 (by kernel_rfl) (by kernel_rfl) args w
theorem ent39 (args : Array Value) (w : World) : (callFunc 39 args).run Try.prog w = .ok (.enter 39 args) w := run_enter Try.func39 (by kernel_rfl) (by kernel_rfl) args w
theorem ent40 (args : Array Value) (w : World) : (callFunc 40 args).run Try.prog w = .ok (.enter 40 args) w := run_enter Try.func40 (by kernel_rfl) (by kernel_rfl) args w
theorem ent41 (args : Array Value) (w : World) : (callFunc 41 args).run Try.prog w = .ok (.enter 41 args) w := run_enter Try.func41 (by kernel_rfl) (by kernel_rfl) args w
theorem ent42 (args : Array Value) (w : World) : (callFunc 42 args).run Try.prog w = .ok (.enter 42 args) w := run_enter Try.func42 (by kernel_rfl) (by kernel_rfl) args w
theorem ent43 (args : Array Value) (w : World) : (callFunc 43 args).run Try.prog w = .ok (.enter 43 args) w := run_enter Try.func43 (by kernel_rfl) (by kernel_rfl) args w
theorem ent44 (args : Array Value) (w : World) : (callFunc 44 args).run Try.prog w = .ok (.enter 44 args) w := run_enter Try.func44 (by kernel_rfl) (by kernel_rfl) args w
theorem ent45 (args : Array Value) (w : World) : (callFunc 45 args).run Try.prog w = .ok (.enter 45 args) w := run_enter Try.func45 (by kernel_rfl) (by kernel_rfl) args w
theorem ent46 (args : Array Value) (w : World) : (callFunc 46 args).run Try.prog w = .ok (.enter 46 args) w := run_enter Try.func46 (by kernel_rfl) (by kernel_rfl) args w
theorem ent47 (args : Array Value) (w : World) : (callFunc 47 args).run Try.prog w = .ok (.enter 47 args) w := run_enter Try.func47 (by kernel_rfl) (by kernel_rfl) args w
theorem ent48 (args : Array Value) (w : World) : (callFunc 48 args).run Try.prog w = .ok (.enter 48 args) w := run_enter Try.func48 (by kernel_rfl) (by kernel_rfl) args w
theorem ent49 (args : Array Value) (w : World) : (callFunc 49 args).run Try.prog w = .ok (.enter 49 args) w := run_enter Try.func49 (by kernel_rfl) (by kernel_rfl) args w
theorem ent50 (args : Array Value) (w : World) : (callFunc 50 args).run Try.prog w = .ok (.enter 50 args) w := run_enter Try.func50 (by kernel_rfl) (by kernel_rfl) args w
theorem ent51 (args : Array Value) (w : World) : (callFunc 51 args).run Try.prog w = .ok (.enter 51 args) w := run_enter Try.func51 (by kernel_rfl) (by kernel_rfl) args w
theorem ent52 (args : Array Value) (w : World) : (callFunc 52 args).run Try.prog w = .ok (.enter 52 args) w := run_enter Try.func52 (by kernel_rfl) (by kernel_rfl) args w
theorem ent53 (args : Array Value) (w : World) : (callFunc 53 args).run Try.prog w = .ok (.enter 53 args) w := run_enter Try.func53 (by kernel_rfl) (by kernel_rfl) args w
theorem ent54 (args : Array Value) (w : World) : (callFunc 54 args).run Try.prog w = .ok (.enter 54 args) w := run_enter Try.func54 (by kernel_rfl) (by kernel_rfl) args w
theorem ent55 (args : Array Value) (w : World) : (callFunc 55 args).run Try.prog w = .ok (.enter 55 args) w := run_enter Try.func55 (by kernel_rfl) (by kernel_rfl) args w
theorem ent56 (args : Array Value) (w : World) : (callFunc 56 args).run Try.prog w = .ok (.enter 56 args) w := run_enter Try.func56 (by kernel_rfl) (by kernel_rfl) args w
theorem ent57 (args : Array Value) (w : World) : (callFunc 57 args).run Try.prog w = .ok (.enter 57 args) w := run_enter Try.func57 (by kernel_rfl) (by kernel_rfl) args w
theorem ent58 (args : Array Value) (w : World) : (callFunc 58 args).run Try.prog w = .ok (.enter 58 args) w := run_enter Try.func58 (by kernel_rfl) (by kernel_rfl) args w
theorem ent59 (args : Array Value) (w : World) : (callFunc 59 args).run Try.prog w = .ok (.enter 59 args) w := run_enter Try.func59 (by kernel_rfl) (by kernel_rfl) args w
theorem ent60 (args : Array Value) (w : World) : (callFunc 60 args).run Try.prog w = .ok (.enter 60 args) w := run_enter Try.func60 (by kernel_rfl) (by kernel_rfl) args w
theorem ent61 (args : Array Value) (w : World) : (callFunc 61 args).run Try.prog w = .ok (.enter 61 args) w := run_enter Try.func61 (by kernel_rfl) (by kernel_rfl) args w
end Go.Proofs.Ytmgnigofilkfmaa
