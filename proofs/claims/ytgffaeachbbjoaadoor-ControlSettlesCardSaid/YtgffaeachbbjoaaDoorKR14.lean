import Derived.Test.YtgffaeachbbjoaaDoorKR13
import Derived.Test.YtgffaeachbbjoaaDoorProg
section
namespace Go.Proofs
open Go.Wx
theorem Tryd.en4 (args : Array Value) (w : World) : (callFunc 4 args).run Tryd.prog w = .ok (.enter 4 args) w := enters_fn Tryd.func4 (by kernel_rfl) rfl args w
theorem Tryd.en5 (args : Array Value) (w : World) : (callFunc 5 args).run Tryd.prog w = .ok (.enter 5 args) w := enters_fn Tryd.func5 (by kernel_rfl) rfl args w
theorem Tryd.en6 (args : Array Value) (w : World) : (callFunc 6 args).run Tryd.prog w = .ok (.enter 6 args) w := enters_fn Tryd.func6 (by kernel_rfl) rfl args w
theorem Tryd.en7 (args : Array Value) (w : World) : (callFunc 7 args).run Tryd.prog w = .ok (.enter 7 args) w := enters_fn Tryd.func7 (by kernel_rfl) rfl args w
theorem Tryd.en8 (args : Array Value) (w : World) : (callFunc 8 args).run Tryd.prog w = .ok (.enter 8 args) w := enters_fn Tryd.func8 (by kernel_rfl) rfl args w
theorem Tryd.en9 (args : Array Value) (w : World) : (callFunc 9 args).run Tryd.prog w = .ok (.enter 9 args) w := enters_fn Tryd.func9 (by kernel_rfl) rfl args w
theorem Tryd.en10 (args : Array Value) (w : World) : (callFunc 10 args).run Tryd.prog w = .ok (.enter 10 args) w := enters_fn Tryd.func10 (by kernel_rfl) rfl args w
theorem Tryd.en11 (args : Array Value) (w : World) : (callFunc 11 args).run Tryd.prog w = .ok (.enter 11 args) w := enters_fn Tryd.func11 (by kernel_rfl) rfl args w
theorem Tryd.en12 (args : Array Value) (w : World) : (callFunc 12 args).run Tryd.prog w = .ok (.enter 12 args) w := enters_fn Tryd.func12 (by kernel_rfl) rfl args w
theorem Tryd.en13 (args : Array Value) (w : World) : (callFunc 13 args).run Tryd.prog w = .ok (.enter 13 args) w := enters_fn Tryd.func13 (by kernel_rfl) rfl args w
theorem Tryd.en14 (args : Array Value) (w : World) : (callFunc 14 args).run Tryd.prog w = .ok (.enter 14 args) w := enters_fn Tryd.func14 (by kernel_rfl) rfl args w
theorem Tryd.en15 (args : Array Value) (w : World) : (callFunc 15 args).run Tryd.prog w = .ok (.enter 15 args) w := enters_fn Tryd.func15 (by kernel_rfl) rfl args w
theorem Tryd.en16 (args : Array Value) (w : World) : (callFunc 16 args).run Tryd.prog w = .ok (.enter 16 args) w := enters_fn Tryd.func16 (by kernel_rfl) rfl args w
theorem Tryd.en17 (args : Array Value) (w : World) : (callFunc 17 args).run Tryd.prog w = .ok (.enter 17 args) w := enters_fn Tryd.func17 (by kernel_rfl) rfl args w
theorem Tryd.en18 (args : Array Value) (w : World) : (callFunc 18 args).run Tryd.prog w = .ok (.enter 18 args) w := enters_fn Tryd.func18 (by kernel_rfl) rfl args w
theorem Tryd.en19 (args : Array Value) (w : World) : (callFunc 19 args).run Tryd.prog w = .ok (.enter 19 args) w := enters_fn Tryd.func19 (by kernel_rfl) rfl args w
theorem Tryd.en20 (args : Array Value) (w : World) : (callFunc 20 args).run Tryd.prog w = .ok (.enter 20 args) w := enters_fn Tryd.func20 (by kernel_rfl) rfl args w
theorem Tryd.en21 (args : Array Value) (w : World) : (callFunc 21 args).run Tryd.prog w = .ok (.enter 21 args) w := enters_fn Tryd.func21 (by kernel_rfl) rfl args w
theorem Tryd.en22 (args : Array Value) (w : World) : (callFunc 22 args).run Tryd.prog w = .ok (.enter 22 args) w := enters_fn Tryd.func22 (by kernel_rfl) rfl args w
theorem Tryd.en23 (args : Array Value) (w : World) : (callFunc 23 args).run Tryd.prog w = .ok (.enter 23 args) w := enters_fn Tryd.func23 (by kernel_rfl) rfl args w
theorem Tryd.en24 (args : Array Value) (w : World) : (callFunc 24 args).run Tryd.prog w = .ok (.enter 24 args) w := enters_fn Tryd.func24 (by kernel_rfl) rfl args w
theorem Tryd.en25 (args : Array Value) (w : World) : (callFunc 25 args).run Tryd.prog w = .ok (.enter 25 args) w := enters_fn Tryd.func25 (by kernel_rfl) rfl args w
theorem Tryd.en26 (args : Array Value) (w : World) : (callFunc 26 args).run Tryd.prog w = .ok (.enter 26 args) w := enters_fn Tryd.func26 (by kernel_rfl) rfl args w
theorem Tryd.en27 (args : Array Value) (w : World) : (callFunc 27 args).run Tryd.prog w = .ok (.enter 27 args) w := enters_fn Tryd.func27 (by kernel_rfl) rfl args w
theorem Tryd.en28 (args : Array Value) (w : World) : (callFunc 28 args).run Tryd.prog w = .ok (.enter 28 args) w := enters_fn Tryd.func28 (by kernel_rfl) rfl args w
theorem Tryd.en29 (args : Array Value) (w : World) : (callFunc 29 args).run Tryd.prog w = .ok (.enter 29 args) w := enters_fn Tryd.func29 (by kernel_rfl) rfl args w
theorem Tryd.en30 (args : Array Value) (w : World) : (callFunc 30 args).run Tryd.prog w = .ok (.enter 30 args) w := enters_fn Tryd.func30 (by kernel_rfl) rfl args w
theorem Tryd.en31 (args : Array Value) (w : World) : (callFunc 31 args).run Tryd.prog w = .ok (.enter 31 args) w := enters_fn Tryd.func31 (by kernel_rfl) rfl args w
theorem Tryd.en33 (args : Array Value) (w : World) : (callFunc 33 args).run Tryd.prog w = .ok (.enter 33 args) w := enters_fn Tryd.func33 (by kernel_rfl) rfl args w
theorem Tryd.en34 (args : Array Value) (w : World) : (callFunc 34 args).run Tryd.prog w = .ok (.enter 34 args) w := enters_fn Tryd.func34 (by kernel_rfl) rfl args w
theorem Tryd.en35 (args : Array Value) (w : World) : (callFunc 35 args).run Tryd.prog w = .ok (.enter 35 args) w := enters_fn Tryd.func35 (by kernel_rfl) rfl args w
theorem Tryd.en36 (args : Array Value) (w : World) : (callFunc 36 args).run Tryd.prog w = .ok (.enter 36 args) w := enters_fn Tryd.func36 (by kernel_rfl) rfl args w
theorem Tryd.en37 (args : Array Value) (w : World) : (callFunc 37 args).run Tryd.prog w = .ok (.enter 37 args) w := enters_fn Tryd.func37 (by kernel_rfl) rfl args w
theorem Tryd.en38 (args : Array Value) (w : World) : (callFunc 38 args).run Tryd.prog w = .ok (.enter 38 args) w := enters_fn Tryd.func38 (by kernel_rfl) rfl args w
theorem Tryd.en39 (args : Array Value) (w : World) : (callFunc 39 args).run Tryd.prog w = .ok (.enter 39 args) w := enters_fn Tryd.func39 (by kernel_rfl) rfl args w
theorem Tryd.en40 (args : Array Value) (w : World) : (callFunc 40 args).run Tryd.prog w = .ok (.enter 40 args) w := enters_fn Tryd.func40 (by kernel_rfl) rfl args w
theorem Tryd.en41 (args : Array Value) (w : World) : (callFunc 41 args).run Tryd.prog w = .ok (.enter 41 args) w := enters_fn Tryd.func41 (by kernel_rfl) rfl args w
theorem Tryd.en42 (args : Array Value) (w : World) : (callFunc 42 args).run Tryd.prog w = .ok (.enter 42 args) w := enters_fn Tryd.func42 (by kernel_rfl) rfl args w
theorem Tryd.en43 (args : Array Value) (w : World) : (callFunc 43 args).run Tryd.prog w = .ok (.enter 43 args) w := enters_fn Tryd.func43 (by kernel_rfl) rfl args w
theorem Tryd.en44 (args : Array Value) (w : World) : (callFunc 44 args).run Tryd.prog w = .ok (.enter 44 args) w := enters_fn Tryd.func44 (by kernel_rfl) rfl args w
theorem Tryd.en45 (args : Array Value) (w : World) : (callFunc 45 args).run Tryd.prog w = .ok (.enter 45 args) w := enters_fn Tryd.func45 (by kernel_rfl) rfl args w
theorem Tryd.en46 (args : Array Value) (w : World) : (callFunc 46 args).run Tryd.prog w = .ok (.enter 46 args) w := enters_fn Tryd.func46 (by kernel_rfl) rfl args w
theorem Tryd.en47 (args : Array Value) (w : World) : (callFunc 47 args).run Tryd.prog w = .ok (.enter 47 args) w := enters_fn Tryd.func47 (by kernel_rfl) rfl args w
theorem Tryd.en48 (args : Array Value) (w : World) : (callFunc 48 args).run Tryd.prog w = .ok (.enter 48 args) w := enters_fn Tryd.func48 (by kernel_rfl) rfl args w
theorem Tryd.en49 (args : Array Value) (w : World) : (callFunc 49 args).run Tryd.prog w = .ok (.enter 49 args) w := enters_fn Tryd.func49 (by kernel_rfl) rfl args w
theorem Tryd.en50 (args : Array Value) (w : World) : (callFunc 50 args).run Tryd.prog w = .ok (.enter 50 args) w := enters_fn Tryd.func50 (by kernel_rfl) rfl args w
theorem Tryd.en51 (args : Array Value) (w : World) : (callFunc 51 args).run Tryd.prog w = .ok (.enter 51 args) w := enters_fn Tryd.func51 (by kernel_rfl) rfl args w
theorem Tryd.en52 (args : Array Value) (w : World) : (callFunc 52 args).run Tryd.prog w = .ok (.enter 52 args) w := enters_fn Tryd.func52 (by kernel_rfl) rfl args w
theorem Tryd.en53 (args : Array Value) (w : World) : (callFunc 53 args).run Tryd.prog w = .ok (.enter 53 args) w := enters_fn Tryd.func53 (by kernel_rfl) rfl args w
theorem Tryd.en54 (args : Array Value) (w : World) : (callFunc 54 args).run Tryd.prog w = .ok (.enter 54 args) w := enters_fn Tryd.func54 (by kernel_rfl) rfl args w
theorem Tryd.en55 (args : Array Value) (w : World) : (callFunc 55 args).run Tryd.prog w = .ok (.enter 55 args) w := enters_fn Tryd.func55 (by kernel_rfl) rfl args w
theorem Tryd.en58 (args : Array Value) (w : World) : (callFunc 58 args).run Tryd.prog w = .ok (.enter 58 args) w := enters_fn Tryd.func58 (by kernel_rfl) rfl args w
theorem Tryd.en59 (args : Array Value) (w : World) : (callFunc 59 args).run Tryd.prog w = .ok (.enter 59 args) w := enters_fn Tryd.func59 (by kernel_rfl) rfl args w
theorem Tryd.en60 (args : Array Value) (w : World) : (callFunc 60 args).run Tryd.prog w = .ok (.enter 60 args) w := enters_fn Tryd.func60 (by kernel_rfl) rfl args w
theorem Tryd.en61 (args : Array Value) (w : World) : (callFunc 61 args).run Tryd.prog w = .ok (.enter 61 args) w := enters_fn Tryd.func61 (by kernel_rfl) rfl args w
theorem Tryd.en62 (args : Array Value) (w : World) : (callFunc 62 args).run Tryd.prog w = .ok (.enter 62 args) w := enters_fn Tryd.func62 (by kernel_rfl) rfl args w
theorem Tryd.en63 (args : Array Value) (w : World) : (callFunc 63 args).run Tryd.prog w = .ok (.enter 63 args) w := enters_fn Tryd.func63 (by kernel_rfl) rfl args w
theorem Tryd.en64 (args : Array Value) (w : World) : (callFunc 64 args).run Tryd.prog w = .ok (.enter 64 args) w := enters_fn Tryd.func64 (by kernel_rfl) rfl args w
theorem Tryd.en65 (args : Array Value) (w : World) : (callFunc 65 args).run Tryd.prog w = .ok (.enter 65 args) w := enters_fn Tryd.func65 (by kernel_rfl) rfl args w
theorem Tryd.en66 (args : Array Value) (w : World) : (callFunc 66 args).run Tryd.prog w = .ok (.enter 66 args) w := enters_fn Tryd.func66 (by kernel_rfl) rfl args w
theorem Tryd.en67 (args : Array Value) (w : World) : (callFunc 67 args).run Tryd.prog w = .ok (.enter 67 args) w := enters_fn Tryd.func67 (by kernel_rfl) rfl args w
theorem Tryd.en68 (args : Array Value) (w : World) : (callFunc 68 args).run Tryd.prog w = .ok (.enter 68 args) w := enters_fn Tryd.func68 (by kernel_rfl) rfl args w
theorem Tryd.en69 (args : Array Value) (w : World) : (callFunc 69 args).run Tryd.prog w = .ok (.enter 69 args) w := enters_fn Tryd.func69 (by kernel_rfl) rfl args w
theorem Tryd.en70 (args : Array Value) (w : World) : (callFunc 70 args).run Tryd.prog w = .ok (.enter 70 args) w := enters_fn Tryd.func70 (by kernel_rfl) rfl args w
theorem Tryd.en71 (args : Array Value) (w : World) : (callFunc 71 args).run Tryd.prog w = .ok (.enter 71 args) w := enters_fn Tryd.func71 (by kernel_rfl) rfl args w
theorem Tryd.en72 (args : Array Value) (w : World) : (callFunc 72 args).run Tryd.prog w = .ok (.enter 72 args) w := enters_fn Tryd.func72 (by kernel_rfl) rfl args w
theorem Tryd.en73 (args : Array Value) (w : World) : (callFunc 73 args).run Tryd.prog w = .ok (.enter 73 args) w := enters_fn Tryd.func73 (by kernel_rfl) rfl args w
theorem Tryd.en74 (args : Array Value) (w : World) : (callFunc 74 args).run Tryd.prog w = .ok (.enter 74 args) w := enters_fn Tryd.func74 (by kernel_rfl) rfl args w
theorem Tryd.en75 (args : Array Value) (w : World) : (callFunc 75 args).run Tryd.prog w = .ok (.enter 75 args) w := enters_fn Tryd.func75 (by kernel_rfl) rfl args w
theorem Tryd.en76 (args : Array Value) (w : World) : (callFunc 76 args).run Tryd.prog w = .ok (.enter 76 args) w := enters_fn Tryd.func76 (by kernel_rfl) rfl args w
theorem Tryd.en77 (args : Array Value) (w : World) : (callFunc 77 args).run Tryd.prog w = .ok (.enter 77 args) w := enters_fn Tryd.func77 (by kernel_rfl) rfl args w
theorem Tryd.places25 (w : World) : (placesOf 25).run Tryd.prog w = .ok #[(0, 1), (1, 1), (2, 1), (3, 1), (4, 1), (5, 1), (6, 1), (7, 1), (8, 1), (9, 1), (10, 1), (11, 1), (12, 1), (13, 1), (14, 1), (15, 1), (16, 1), (17, 1), (18, 1)] w := by kernel_rfl
theorem Tryd.places28 (w : World) : (placesOf 28).run Tryd.prog w = .ok #[(0, 1), (1, 1), (2, 1), (3, 1), (4, 1), (5, 1), (6, 1), (7, 1), (8, 1), (9, 1), (10, 1)] w := by kernel_rfl
theorem Tryd.places30 (w : World) : (placesOf 30).run Tryd.prog w = .ok #[(0, 1), (1, 1)] w := by kernel_rfl
theorem Tryd.places33 (w : World) : (placesOf 33).run Tryd.prog w = .ok #[(0, 1), (1, 2), (3, 2), (5, 1)] w := by kernel_rfl
theorem Tryd.places50 (w : World) : (placesOf 50).run Tryd.prog w = .ok #[(0, 11), (11, 1), (12, 1), (13, 1)] w := by kernel_rfl
theorem Tryd.places58 (w : World) : (placesOf 58).run Tryd.prog w = .ok #[(0, 1), (1, 1)] w := by kernel_rfl
end Go.Proofs
end
