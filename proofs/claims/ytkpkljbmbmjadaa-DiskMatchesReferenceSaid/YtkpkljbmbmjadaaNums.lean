import Derived.Test.YtkpkljbmbmjadaaWa
import Derived.Test.YtkpkljbmbmjadaaProg
namespace Go.Proofs
open Go.Wx
theorem Try.en2 (args : Array Value) (w : World) : (callFunc 2 args).run Try.prog w = .ok (.enter 2 args) w := enters_fn Try.func2 (by kernel_rfl) rfl args w
theorem Try.en3 (args : Array Value) (w : World) : (callFunc 3 args).run Try.prog w = .ok (.enter 3 args) w := enters_fn Try.func3 (by kernel_rfl) rfl args w
theorem Try.en4 (args : Array Value) (w : World) : (callFunc 4 args).run Try.prog w = .ok (.enter 4 args) w := enters_fn Try.func4 (by kernel_rfl) rfl args w
theorem Try.en5 (args : Array Value) (w : World) : (callFunc 5 args).run Try.prog w = .ok (.enter 5 args) w := enters_fn Try.func5 (by kernel_rfl) rfl args w
theorem Try.en6 (args : Array Value) (w : World) : (callFunc 6 args).run Try.prog w = .ok (.enter 6 args) w := enters_fn Try.func6 (by kernel_rfl) rfl args w
theorem Try.en7 (args : Array Value) (w : World) : (callFunc 7 args).run Try.prog w = .ok (.enter 7 args) w := enters_fn Try.func7 (by kernel_rfl) rfl args w
theorem Try.en8 (args : Array Value) (w : World) : (callFunc 8 args).run Try.prog w = .ok (.enter 8 args) w := enters_fn Try.func8 (by kernel_rfl) rfl args w
theorem Try.en9 (args : Array Value) (w : World) : (callFunc 9 args).run Try.prog w = .ok (.enter 9 args) w := enters_fn Try.func9 (by kernel_rfl) rfl args w
theorem Try.en10 (args : Array Value) (w : World) : (callFunc 10 args).run Try.prog w = .ok (.enter 10 args) w := enters_fn Try.func10 (by kernel_rfl) rfl args w
theorem Try.en11 (args : Array Value) (w : World) : (callFunc 11 args).run Try.prog w = .ok (.enter 11 args) w := enters_fn Try.func11 (by kernel_rfl) rfl args w
theorem Try.en12 (args : Array Value) (w : World) : (callFunc 12 args).run Try.prog w = .ok (.enter 12 args) w := enters_fn Try.func12 (by kernel_rfl) rfl args w
theorem Try.en13 (args : Array Value) (w : World) : (callFunc 13 args).run Try.prog w = .ok (.enter 13 args) w := enters_fn Try.func13 (by kernel_rfl) rfl args w
theorem Try.en14 (args : Array Value) (w : World) : (callFunc 14 args).run Try.prog w = .ok (.enter 14 args) w := enters_fn Try.func14 (by kernel_rfl) rfl args w
theorem Try.en15 (args : Array Value) (w : World) : (callFunc 15 args).run Try.prog w = .ok (.enter 15 args) w := enters_fn Try.func15 (by kernel_rfl) rfl args w
theorem Try.en16 (args : Array Value) (w : World) : (callFunc 16 args).run Try.prog w = .ok (.enter 16 args) w := enters_fn Try.func16 (by kernel_rfl) rfl args w
theorem Try.en17 (args : Array Value) (w : World) : (callFunc 17 args).run Try.prog w = .ok (.enter 17 args) w := enters_fn Try.func17 (by kernel_rfl) rfl args w
theorem Try.en18 (args : Array Value) (w : World) : (callFunc 18 args).run Try.prog w = .ok (.enter 18 args) w := enters_fn Try.func18 (by kernel_rfl) rfl args w
theorem Try.en19 (args : Array Value) (w : World) : (callFunc 19 args).run Try.prog w = .ok (.enter 19 args) w := enters_fn Try.func19 (by kernel_rfl) rfl args w
theorem Try.en20 (args : Array Value) (w : World) : (callFunc 20 args).run Try.prog w = .ok (.enter 20 args) w := enters_fn Try.func20 (by kernel_rfl) rfl args w
theorem Try.en21 (args : Array Value) (w : World) : (callFunc 21 args).run Try.prog w = .ok (.enter 21 args) w := enters_fn Try.func21 (by kernel_rfl) rfl args w
theorem Try.en22 (args : Array Value) (w : World) : (callFunc 22 args).run Try.prog w = .ok (.enter 22 args) w := enters_fn Try.func22 (by kernel_rfl) rfl args w
theorem Try.en23 (args : Array Value) (w : World) : (callFunc 23 args).run Try.prog w = .ok (.enter 23 args) w := enters_fn Try.func23 (by kernel_rfl) rfl args w
theorem Try.en24 (args : Array Value) (w : World) : (callFunc 24 args).run Try.prog w = .ok (.enter 24 args) w := enters_fn Try.func24 (by kernel_rfl) rfl args w
theorem Try.en25 (args : Array Value) (w : World) : (callFunc 25 args).run Try.prog w = .ok (.enter 25 args) w := enters_fn Try.func25 (by kernel_rfl) rfl args w
theorem Try.en26 (args : Array Value) (w : World) : (callFunc 26 args).run Try.prog w = .ok (.enter 26 args) w := enters_fn Try.func26 (by kernel_rfl) rfl args w
theorem Try.en27 (args : Array Value) (w : World) : (callFunc 27 args).run Try.prog w = .ok (.enter 27 args) w := enters_fn Try.func27 (by kernel_rfl) rfl args w
theorem Try.en28 (args : Array Value) (w : World) : (callFunc 28 args).run Try.prog w = .ok (.enter 28 args) w := enters_fn Try.func28 (by kernel_rfl) rfl args w
theorem Try.en29 (args : Array Value) (w : World) : (callFunc 29 args).run Try.prog w = .ok (.enter 29 args) w := enters_fn Try.func29 (by kernel_rfl) rfl args w
theorem Try.en30 (args : Array Value) (w : World) : (callFunc 30 args).run Try.prog w = .ok (.enter 30 args) w := enters_fn Try.func30 (by kernel_rfl) rfl args w
theorem Try.en31 (args : Array Value) (w : World) : (callFunc 31 args).run Try.prog w = .ok (.enter 31 args) w := enters_fn Try.func31 (by kernel_rfl) rfl args w
theorem Try.en32 (args : Array Value) (w : World) : (callFunc 32 args).run Try.prog w = .ok (.enter 32 args) w := enters_fn Try.func32 (by kernel_rfl) rfl args w
theorem Try.en33 (args : Array Value) (w : World) : (callFunc 33 args).run Try.prog w = .ok (.enter 33 args) w := enters_fn Try.func33 (by kernel_rfl) rfl args w
theorem Try.en34 (args : Array Value) (w : World) : (callFunc 34 args).run Try.prog w = .ok (.enter 34 args) w := enters_fn Try.func34 (by kernel_rfl) rfl args w
theorem Try.en35 (args : Array Value) (w : World) : (callFunc 35 args).run Try.prog w = .ok (.enter 35 args) w := enters_fn Try.func35 (by kernel_rfl) rfl args w
theorem Try.en36 (args : Array Value) (w : World) : (callFunc 36 args).run Try.prog w = .ok (.enter 36 args) w := enters_fn Try.func36 (by kernel_rfl) rfl args w
theorem Try.en37 (args : Array Value) (w : World) : (callFunc 37 args).run Try.prog w = .ok (.enter 37 args) w := enters_fn Try.func37 (by kernel_rfl) rfl args w
theorem Try.en38 (args : Array Value) (w : World) : (callFunc 38 args).run Try.prog w = .ok (.enter 38 args) w := enters_fn Try.func38 (by kernel_rfl) rfl args w
theorem Try.en39 (args : Array Value) (w : World) : (callFunc 39 args).run Try.prog w = .ok (.enter 39 args) w := enters_fn Try.func39 (by kernel_rfl) rfl args w
theorem Try.en40 (args : Array Value) (w : World) : (callFunc 40 args).run Try.prog w = .ok (.enter 40 args) w := enters_fn Try.func40 (by kernel_rfl) rfl args w
theorem Try.en41 (args : Array Value) (w : World) : (callFunc 41 args).run Try.prog w = .ok (.enter 41 args) w := enters_fn Try.func41 (by kernel_rfl) rfl args w
theorem Try.en42 (args : Array Value) (w : World) : (callFunc 42 args).run Try.prog w = .ok (.enter 42 args) w := enters_fn Try.func42 (by kernel_rfl) rfl args w
theorem Try.en43 (args : Array Value) (w : World) : (callFunc 43 args).run Try.prog w = .ok (.enter 43 args) w := enters_fn Try.func43 (by kernel_rfl) rfl args w
theorem Try.en44 (args : Array Value) (w : World) : (callFunc 44 args).run Try.prog w = .ok (.enter 44 args) w := enters_fn Try.func44 (by kernel_rfl) rfl args w
theorem Try.en45 (args : Array Value) (w : World) : (callFunc 45 args).run Try.prog w = .ok (.enter 45 args) w := enters_fn Try.func45 (by kernel_rfl) rfl args w
theorem Try.en46 (args : Array Value) (w : World) : (callFunc 46 args).run Try.prog w = .ok (.enter 46 args) w := enters_fn Try.func46 (by kernel_rfl) rfl args w
theorem Try.en47 (args : Array Value) (w : World) : (callFunc 47 args).run Try.prog w = .ok (.enter 47 args) w := enters_fn Try.func47 (by kernel_rfl) rfl args w
theorem Try.en48 (args : Array Value) (w : World) : (callFunc 48 args).run Try.prog w = .ok (.enter 48 args) w := enters_fn Try.func48 (by kernel_rfl) rfl args w
theorem Try.en49 (args : Array Value) (w : World) : (callFunc 49 args).run Try.prog w = .ok (.enter 49 args) w := enters_fn Try.func49 (by kernel_rfl) rfl args w
theorem Try.en50 (args : Array Value) (w : World) : (callFunc 50 args).run Try.prog w = .ok (.enter 50 args) w := enters_fn Try.func50 (by kernel_rfl) rfl args w
theorem Try.en51 (args : Array Value) (w : World) : (callFunc 51 args).run Try.prog w = .ok (.enter 51 args) w := enters_fn Try.func51 (by kernel_rfl) rfl args w
theorem Try.en52 (args : Array Value) (w : World) : (callFunc 52 args).run Try.prog w = .ok (.enter 52 args) w := enters_fn Try.func52 (by kernel_rfl) rfl args w
theorem Try.en53 (args : Array Value) (w : World) : (callFunc 53 args).run Try.prog w = .ok (.enter 53 args) w := enters_fn Try.func53 (by kernel_rfl) rfl args w
theorem Try.en54 (args : Array Value) (w : World) : (callFunc 54 args).run Try.prog w = .ok (.enter 54 args) w := enters_fn Try.func54 (by kernel_rfl) rfl args w
theorem Try.en55 (args : Array Value) (w : World) : (callFunc 55 args).run Try.prog w = .ok (.enter 55 args) w := enters_fn Try.func55 (by kernel_rfl) rfl args w
theorem Try.en56 (args : Array Value) (w : World) : (callFunc 56 args).run Try.prog w = .ok (.enter 56 args) w := enters_fn Try.func56 (by kernel_rfl) rfl args w
theorem Try.en57 (args : Array Value) (w : World) : (callFunc 57 args).run Try.prog w = .ok (.enter 57 args) w := enters_fn Try.func57 (by kernel_rfl) rfl args w
theorem Try.en58 (args : Array Value) (w : World) : (callFunc 58 args).run Try.prog w = .ok (.enter 58 args) w := enters_fn Try.func58 (by kernel_rfl) rfl args w
theorem Try.en59 (args : Array Value) (w : World) : (callFunc 59 args).run Try.prog w = .ok (.enter 59 args) w := enters_fn Try.func59 (by kernel_rfl) rfl args w
theorem Try.en60 (args : Array Value) (w : World) : (callFunc 60 args).run Try.prog w = .ok (.enter 60 args) w := enters_fn Try.func60 (by kernel_rfl) rfl args w
theorem Try.en61 (args : Array Value) (w : World) : (callFunc 61 args).run Try.prog w = .ok (.enter 61 args) w := enters_fn Try.func61 (by kernel_rfl) rfl args w
theorem Try.en62 (args : Array Value) (w : World) : (callFunc 62 args).run Try.prog w = .ok (.enter 62 args) w := enters_fn Try.func62 (by kernel_rfl) rfl args w
theorem Try.en63 (args : Array Value) (w : World) : (callFunc 63 args).run Try.prog w = .ok (.enter 63 args) w := enters_fn Try.func63 (by kernel_rfl) rfl args w
theorem Try.en64 (args : Array Value) (w : World) : (callFunc 64 args).run Try.prog w = .ok (.enter 64 args) w := enters_fn Try.func64 (by kernel_rfl) rfl args w
theorem Try.en65 (args : Array Value) (w : World) : (callFunc 65 args).run Try.prog w = .ok (.enter 65 args) w := enters_fn Try.func65 (by kernel_rfl) rfl args w
theorem Try.en66 (args : Array Value) (w : World) : (callFunc 66 args).run Try.prog w = .ok (.enter 66 args) w := enters_fn Try.func66 (by kernel_rfl) rfl args w
theorem Try.en67 (args : Array Value) (w : World) : (callFunc 67 args).run Try.prog w = .ok (.enter 67 args) w := enters_fn Try.func67 (by kernel_rfl) rfl args w
theorem Try.en68 (args : Array Value) (w : World) : (callFunc 68 args).run Try.prog w = .ok (.enter 68 args) w := enters_fn Try.func68 (by kernel_rfl) rfl args w
theorem Try.en69 (args : Array Value) (w : World) : (callFunc 69 args).run Try.prog w = .ok (.enter 69 args) w := enters_fn Try.func69 (by kernel_rfl) rfl args w
theorem Try.places43 (w : World) : (placesOf 43).run Try.prog w = .ok #[(0, 1), (1, 1), (2, 1), (3, 1)] w := by kernel_rfl
theorem Try.places62 (w : World) : (placesOf 62).run Try.prog w = .ok #[(0, 1), (1, 1)] w := by kernel_rfl
theorem Try.places65 (w : World) : (placesOf 65).run Try.prog w = .ok #[(0, 2), (2, 1), (3, 1), (4, 1)] w := by kernel_rfl
theorem Try.places69 (w : World) : (placesOf 69).run Try.prog w = .ok #[(0, 1), (1, 1)] w := by kernel_rfl
theorem Try.places80 (w : World) : (placesOf 80).run Try.prog w = .ok #[(0, 1), (1, 1)] w := by kernel_rfl
end Go.Proofs
