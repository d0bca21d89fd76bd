import Derived.Test.YtdelcaegofkknaaWa
import Derived.Test.YtdelcaegofkknaaProg
namespace Go.Proofs
open Go.Wx
theorem Try.en2 (args : Array Value) (w : World) : (callFunc 2 args).run Try.prog w = .ok (.enter 2 args) w := enters_fn Try.func2 (by kernel_rfl) rfl args w
theorem Try.en3 (args : Array Value) (w : World) : (callFunc 3 args).run Try.prog w = .ok (.enter 3 args) w := enters_fn Try.func3 (by kernel_rfl) rfl args w
theorem Try.en4 (args : Array Value) (w : World) : (callFunc 4 args).run Try.prog w = .ok (.enter 4 args) w := enters_fn Try.func4 (by kernel_rfl) rfl args w
theorem Try.en5 (args : Array Value) (w : World) : (callFunc 5 args).run Try.prog w = .ok (.enter 5 args) w := enters_fn Try.func5 (by kernel_rfl) rfl args w
theorem Try.en6 (args : Array Value) (w : World) : (callFunc 6 args).run Try.prog w = .ok (.enter 6 args) w := enters_fn Try.func6 (by kernel_rfl) rfl args w
theorem Try.en7 (args : Array Value) (w : World) : (callFunc 7 args).run Try.prog w = .ok (.enter 7 args) w := enters_fn Try.func7 (by kernel_rfl) rfl args w
theorem Try.en8 (args : Array Value) (w : World) : (callFunc 8 args).run Try.prog w = .ok (.enter 8 args) w := enters_fn Try.func8 (by kernel_rfl) rfl args w
theorem Try.en9 (args : Array Value) (w : World) : (callFunc 9 args).run Try.prog w = .ok (.enter 9 args) w := enters_fn Try.func9 (by kernel_rfl) rfl args w
theorem Try.en10 (args : Array Value) (w : World) : (callFunc 10 args).run Try.prog w = .ok (.enter 10 args) w := enters_fn Try.func10 (by kernel_rfl) rfl args w
theorem Try.en11 (args : Array Value) (w : World) : (callFunc 11 args).run Try.prog w = .ok (.enter 11 args) w := enters_fn Try.func11 (by kernel_rfl) rfl args w
theorem Try.en12 (args : Array Value) (w : World) : (callFunc 12 args).run Try.prog w = .ok (.enter 12 args) w := enters_fn Try.func12 (by kernel_rfl) rfl args w
theorem Try.en13 (args : Array Value) (w : World) : (callFunc 13 args).run Try.prog w = .ok (.enter 13 args) w := enters_fn Try.func13 (by kernel_rfl) rfl args w
theorem Try.en14 (args : Array Value) (w : World) : (callFunc 14 args).run Try.prog w = .ok (.enter 14 args) w := enters_fn Try.func14 (by kernel_rfl) rfl args w
theorem Try.en15 (args : Array Value) (w : World) : (callFunc 15 args).run Try.prog w = .ok (.enter 15 args) w := enters_fn Try.func15 (by kernel_rfl) rfl args w
theorem Try.en16 (args : Array Value) (w : World) : (callFunc 16 args).run Try.prog w = .ok (.enter 16 args) w := enters_fn Try.func16 (by kernel_rfl) rfl args w
theorem Try.en17 (args : Array Value) (w : World) : (callFunc 17 args).run Try.prog w = .ok (.enter 17 args) w := enters_fn Try.func17 (by kernel_rfl) rfl args w
theorem Try.en18 (args : Array Value) (w : World) : (callFunc 18 args).run Try.prog w = .ok (.enter 18 args) w := enters_fn Try.func18 (by kernel_rfl) rfl args w
theorem Try.en19 (args : Array Value) (w : World) : (callFunc 19 args).run Try.prog w = .ok (.enter 19 args) w := enters_fn Try.func19 (by kernel_rfl) rfl args w
theorem Try.en20 (args : Array Value) (w : World) : (callFunc 20 args).run Try.prog w = .ok (.enter 20 args) w := enters_fn Try.func20 (by kernel_rfl) rfl args w
theorem Try.en21 (args : Array Value) (w : World) : (callFunc 21 args).run Try.prog w = .ok (.enter 21 args) w := enters_fn Try.func21 (by kernel_rfl) rfl args w
theorem Try.en22 (args : Array Value) (w : World) : (callFunc 22 args).run Try.prog w = .ok (.enter 22 args) w := enters_fn Try.func22 (by kernel_rfl) rfl args w
theorem Try.en23 (args : Array Value) (w : World) : (callFunc 23 args).run Try.prog w = .ok (.enter 23 args) w := enters_fn Try.func23 (by kernel_rfl) rfl args w
theorem Try.en24 (args : Array Value) (w : World) : (callFunc 24 args).run Try.prog w = .ok (.enter 24 args) w := enters_fn Try.func24 (by kernel_rfl) rfl args w
theorem Try.en25 (args : Array Value) (w : World) : (callFunc 25 args).run Try.prog w = .ok (.enter 25 args) w := enters_fn Try.func25 (by kernel_rfl) rfl args w
theorem Try.en26 (args : Array Value) (w : World) : (callFunc 26 args).run Try.prog w = .ok (.enter 26 args) w := enters_fn Try.func26 (by kernel_rfl) rfl args w
theorem Try.en27 (args : Array Value) (w : World) : (callFunc 27 args).run Try.prog w = .ok (.enter 27 args) w := enters_fn Try.func27 (by kernel_rfl) rfl args w
theorem Try.en28 (args : Array Value) (w : World) : (callFunc 28 args).run Try.prog w = .ok (.enter 28 args) w := enters_fn Try.func28 (by kernel_rfl) rfl args w
theorem Try.en29 (args : Array Value) (w : World) : (callFunc 29 args).run Try.prog w = .ok (.enter 29 args) w := enters_fn Try.func29 (by kernel_rfl) rfl args w
theorem Try.en30 (args : Array Value) (w : World) : (callFunc 30 args).run Try.prog w = .ok (.enter 30 args) w := enters_fn Try.func30 (by kernel_rfl) rfl args w
theorem Try.en31 (args : Array Value) (w : World) : (callFunc 31 args).run Try.prog w = .ok (.enter 31 args) w := enters_fn Try.func31 (by kernel_rfl) rfl args w
theorem Try.en32 (args : Array Value) (w : World) : (callFunc 32 args).run Try.prog w = .ok (.enter 32 args) w := enters_fn Try.func32 (by kernel_rfl) rfl args w
theorem Try.en33 (args : Array Value) (w : World) : (callFunc 33 args).run Try.prog w = .ok (.enter 33 args) w := enters_fn Try.func33 (by kernel_rfl) rfl args w
theorem Try.en34 (args : Array Value) (w : World) : (callFunc 34 args).run Try.prog w = .ok (.enter 34 args) w := enters_fn Try.func34 (by kernel_rfl) rfl args w
theorem Try.en35 (args : Array Value) (w : World) : (callFunc 35 args).run Try.prog w = .ok (.enter 35 args) w := enters_fn Try.func35 (by kernel_rfl) rfl args w
theorem Try.en36 (args : Array Value) (w : World) : (callFunc 36 args).run Try.prog w = .ok (.enter 36 args) w := enters_fn Try.func36 (by kernel_rfl) rfl args w
theorem Try.en37 (args : Array Value) (w : World) : (callFunc 37 args).run Try.prog w = .ok (.enter 37 args) w := enters_fn Try.func37 (by kernel_rfl) rfl args w
theorem Try.en38 (args : Array Value) (w : World) : (callFunc 38 args).run Try.prog w = .ok (.enter 38 args) w := enters_fn Try.func38 (by kernel_rfl) rfl args w
theorem Try.en39 (args : Array Value) (w : World) : (callFunc 39 args).run Try.prog w = .ok (.enter 39 args) w := enters_fn Try.func39 (by kernel_rfl) rfl args w
theorem Try.en40 (args : Array Value) (w : World) : (callFunc 40 args).run Try.prog w = .ok (.enter 40 args) w := enters_fn Try.func40 (by kernel_rfl) rfl args w
theorem Try.en41 (args : Array Value) (w : World) : (callFunc 41 args).run Try.prog w = .ok (.enter 41 args) w := enters_fn Try.func41 (by kernel_rfl) rfl args w
theorem Try.en42 (args : Array Value) (w : World) : (callFunc 42 args).run Try.prog w = .ok (.enter 42 args) w := enters_fn Try.func42 (by kernel_rfl) rfl args w
theorem Try.en43 (args : Array Value) (w : World) : (callFunc 43 args).run Try.prog w = .ok (.enter 43 args) w := enters_fn Try.func43 (by kernel_rfl) rfl args w
theorem Try.en44 (args : Array Value) (w : World) : (callFunc 44 args).run Try.prog w = .ok (.enter 44 args) w := enters_fn Try.func44 (by kernel_rfl) rfl args w
theorem Try.en45 (args : Array Value) (w : World) : (callFunc 45 args).run Try.prog w = .ok (.enter 45 args) w := enters_fn Try.func45 (by kernel_rfl) rfl args w
theorem Try.en46 (args : Array Value) (w : World) : (callFunc 46 args).run Try.prog w = .ok (.enter 46 args) w := enters_fn Try.func46 (by kernel_rfl) rfl args w
theorem Try.en47 (args : Array Value) (w : World) : (callFunc 47 args).run Try.prog w = .ok (.enter 47 args) w := enters_fn Try.func47 (by kernel_rfl) rfl args w
theorem Try.en48 (args : Array Value) (w : World) : (callFunc 48 args).run Try.prog w = .ok (.enter 48 args) w := enters_fn Try.func48 (by kernel_rfl) rfl args w
theorem Try.en49 (args : Array Value) (w : World) : (callFunc 49 args).run Try.prog w = .ok (.enter 49 args) w := enters_fn Try.func49 (by kernel_rfl) rfl args w
theorem Try.en50 (args : Array Value) (w : World) : (callFunc 50 args).run Try.prog w = .ok (.enter 50 args) w := enters_fn Try.func50 (by kernel_rfl) rfl args w
theorem Try.en51 (args : Array Value) (w : World) : (callFunc 51 args).run Try.prog w = .ok (.enter 51 args) w := enters_fn Try.func51 (by kernel_rfl) rfl args w
theorem Try.en52 (args : Array Value) (w : World) : (callFunc 52 args).run Try.prog w = .ok (.enter 52 args) w := enters_fn Try.func52 (by kernel_rfl) rfl args w
theorem Try.en53 (args : Array Value) (w : World) : (callFunc 53 args).run Try.prog w = .ok (.enter 53 args) w := enters_fn Try.func53 (by kernel_rfl) rfl args w
theorem Try.en54 (args : Array Value) (w : World) : (callFunc 54 args).run Try.prog w = .ok (.enter 54 args) w := enters_fn Try.func54 (by kernel_rfl) rfl args w
theorem Try.en55 (args : Array Value) (w : World) : (callFunc 55 args).run Try.prog w = .ok (.enter 55 args) w := enters_fn Try.func55 (by kernel_rfl) rfl args w
theorem Try.en56 (args : Array Value) (w : World) : (callFunc 56 args).run Try.prog w = .ok (.enter 56 args) w := enters_fn Try.func56 (by kernel_rfl) rfl args w
theorem Try.en57 (args : Array Value) (w : World) : (callFunc 57 args).run Try.prog w = .ok (.enter 57 args) w := enters_fn Try.func57 (by kernel_rfl) rfl args w
theorem Try.en58 (args : Array Value) (w : World) : (callFunc 58 args).run Try.prog w = .ok (.enter 58 args) w := enters_fn Try.func58 (by kernel_rfl) rfl args w
theorem Try.en59 (args : Array Value) (w : World) : (callFunc 59 args).run Try.prog w = .ok (.enter 59 args) w := enters_fn Try.func59 (by kernel_rfl) rfl args w
theorem Try.en60 (args : Array Value) (w : World) : (callFunc 60 args).run Try.prog w = .ok (.enter 60 args) w := enters_fn Try.func60 (by kernel_rfl) rfl args w
theorem Try.en61 (args : Array Value) (w : World) : (callFunc 61 args).run Try.prog w = .ok (.enter 61 args) w := enters_fn Try.func61 (by kernel_rfl) rfl args w
theorem Try.en62 (args : Array Value) (w : World) : (callFunc 62 args).run Try.prog w = .ok (.enter 62 args) w := enters_fn Try.func62 (by kernel_rfl) rfl args w
theorem Try.en63 (args : Array Value) (w : World) : (callFunc 63 args).run Try.prog w = .ok (.enter 63 args) w := enters_fn Try.func63 (by kernel_rfl) rfl args w
theorem Try.en64 (args : Array Value) (w : World) : (callFunc 64 args).run Try.prog w = .ok (.enter 64 args) w := enters_fn Try.func64 (by kernel_rfl) rfl args w
theorem Try.en65 (args : Array Value) (w : World) : (callFunc 65 args).run Try.prog w = .ok (.enter 65 args) w := enters_fn Try.func65 (by kernel_rfl) rfl args w
theorem Try.en66 (args : Array Value) (w : World) : (callFunc 66 args).run Try.prog w = .ok (.enter 66 args) w := enters_fn Try.func66 (by kernel_rfl) rfl args w
theorem Try.en67 (args : Array Value) (w : World) : (callFunc 67 args).run Try.prog w = .ok (.enter 67 args) w := enters_fn Try.func67 (by kernel_rfl) rfl args w
theorem Try.en68 (args : Array Value) (w : World) : (callFunc 68 args).run Try.prog w = .ok (.enter 68 args) w := enters_fn Try.func68 (by kernel_rfl) rfl args w
theorem Try.en69 (args : Array Value) (w : World) : (callFunc 69 args).run Try.prog w = .ok (.enter 69 args) w := enters_fn Try.func69 (by kernel_rfl) rfl args w
theorem Try.en70 (args : Array Value) (w : World) : (callFunc 70 args).run Try.prog w = .ok (.enter 70 args) w := enters_fn Try.func70 (by kernel_rfl) rfl args w
theorem Try.en71 (args : Array Value) (w : World) : (callFunc 71 args).run Try.prog w = .ok (.enter 71 args) w := enters_fn Try.func71 (by kernel_rfl) rfl args w
theorem Try.en72 (args : Array Value) (w : World) : (callFunc 72 args).run Try.prog w = .ok (.enter 72 args) w := enters_fn Try.func72 (by kernel_rfl) rfl args w
theorem Try.en73 (args : Array Value) (w : World) : (callFunc 73 args).run Try.prog w = .ok (.enter 73 args) w := enters_fn Try.func73 (by kernel_rfl) rfl args w
theorem Try.en74 (args : Array Value) (w : World) : (callFunc 74 args).run Try.prog w = .ok (.enter 74 args) w := enters_fn Try.func74 (by kernel_rfl) rfl args w
theorem Try.en75 (args : Array Value) (w : World) : (callFunc 75 args).run Try.prog w = .ok (.enter 75 args) w := enters_fn Try.func75 (by kernel_rfl) rfl args w
theorem Try.en76 (args : Array Value) (w : World) : (callFunc 76 args).run Try.prog w = .ok (.enter 76 args) w := enters_fn Try.func76 (by kernel_rfl) rfl args w
theorem Try.en77 (args : Array Value) (w : World) : (callFunc 77 args).run Try.prog w = .ok (.enter 77 args) w := enters_fn Try.func77 (by kernel_rfl) rfl args w
theorem Try.en78 (args : Array Value) (w : World) : (callFunc 78 args).run Try.prog w = .ok (.enter 78 args) w := enters_fn Try.func78 (by kernel_rfl) rfl args w
theorem Try.en79 (args : Array Value) (w : World) : (callFunc 79 args).run Try.prog w = .ok (.enter 79 args) w := enters_fn Try.func79 (by kernel_rfl) rfl args w
theorem Try.en80 (args : Array Value) (w : World) : (callFunc 80 args).run Try.prog w = .ok (.enter 80 args) w := enters_fn Try.func80 (by kernel_rfl) rfl args w
theorem Try.en81 (args : Array Value) (w : World) : (callFunc 81 args).run Try.prog w = .ok (.enter 81 args) w := enters_fn Try.func81 (by kernel_rfl) rfl args w
theorem Try.en82 (args : Array Value) (w : World) : (callFunc 82 args).run Try.prog w = .ok (.enter 82 args) w := enters_fn Try.func82 (by kernel_rfl) rfl args w
theorem Try.en83 (args : Array Value) (w : World) : (callFunc 83 args).run Try.prog w = .ok (.enter 83 args) w := enters_fn Try.func83 (by kernel_rfl) rfl args w
theorem Try.en84 (args : Array Value) (w : World) : (callFunc 84 args).run Try.prog w = .ok (.enter 84 args) w := enters_fn Try.func84 (by kernel_rfl) rfl args w
theorem Try.en85 (args : Array Value) (w : World) : (callFunc 85 args).run Try.prog w = .ok (.enter 85 args) w := enters_fn Try.func85 (by kernel_rfl) rfl args w
theorem Try.en86 (args : Array Value) (w : World) : (callFunc 86 args).run Try.prog w = .ok (.enter 86 args) w := enters_fn Try.func86 (by kernel_rfl) rfl args w
theorem Try.en87 (args : Array Value) (w : World) : (callFunc 87 args).run Try.prog w = .ok (.enter 87 args) w := enters_fn Try.func87 (by kernel_rfl) rfl args w
theorem Try.en88 (args : Array Value) (w : World) : (callFunc 88 args).run Try.prog w = .ok (.enter 88 args) w := enters_fn Try.func88 (by kernel_rfl) rfl args w
theorem Try.en89 (args : Array Value) (w : World) : (callFunc 89 args).run Try.prog w = .ok (.enter 89 args) w := enters_fn Try.func89 (by kernel_rfl) rfl args w
theorem Try.en90 (args : Array Value) (w : World) : (callFunc 90 args).run Try.prog w = .ok (.enter 90 args) w := enters_fn Try.func90 (by kernel_rfl) rfl args w
theorem Try.en91 (args : Array Value) (w : World) : (callFunc 91 args).run Try.prog w = .ok (.enter 91 args) w := enters_fn Try.func91 (by kernel_rfl) rfl args w
theorem Try.en92 (args : Array Value) (w : World) : (callFunc 92 args).run Try.prog w = .ok (.enter 92 args) w := enters_fn Try.func92 (by kernel_rfl) rfl args w
theorem Try.en93 (args : Array Value) (w : World) : (callFunc 93 args).run Try.prog w = .ok (.enter 93 args) w := enters_fn Try.func93 (by kernel_rfl) rfl args w
theorem Try.en94 (args : Array Value) (w : World) : (callFunc 94 args).run Try.prog w = .ok (.enter 94 args) w := enters_fn Try.func94 (by kernel_rfl) rfl args w
theorem Try.en95 (args : Array Value) (w : World) : (callFunc 95 args).run Try.prog w = .ok (.enter 95 args) w := enters_fn Try.func95 (by kernel_rfl) rfl args w
theorem Try.en96 (args : Array Value) (w : World) : (callFunc 96 args).run Try.prog w = .ok (.enter 96 args) w := enters_fn Try.func96 (by kernel_rfl) rfl args w
theorem Try.en98 (args : Array Value) (w : World) : (callFunc 98 args).run Try.prog w = .ok (.enter 98 args) w := enters_fn Try.func98 (by kernel_rfl) rfl args w
theorem Try.en99 (args : Array Value) (w : World) : (callFunc 99 args).run Try.prog w = .ok (.enter 99 args) w := enters_fn Try.func99 (by kernel_rfl) rfl args w
theorem Try.en100 (args : Array Value) (w : World) : (callFunc 100 args).run Try.prog w = .ok (.enter 100 args) w := enters_fn Try.func100 (by kernel_rfl) rfl args w
theorem Try.en102 (args : Array Value) (w : World) : (callFunc 102 args).run Try.prog w = .ok (.enter 102 args) w := enters_fn Try.func102 (by kernel_rfl) rfl args w
theorem Try.en103 (args : Array Value) (w : World) : (callFunc 103 args).run Try.prog w = .ok (.enter 103 args) w := enters_fn Try.func103 (by kernel_rfl) rfl args w
theorem Try.places28 (w : World) : (placesOf 28).run Try.prog w = .ok #[(0, 1), (1, 1), (2, 1), (3, 1), (4, 1), (5, 1), (6, 1), (7, 1), (8, 1), (9, 1), (10, 1), (11, 1), (12, 1), (13, 1), (14, 1), (15, 1), (16, 1), (17, 1), (18, 1)] w := by kernel_rfl
theorem Try.places31 (w : World) : (placesOf 31).run Try.prog w = .ok #[(0, 1), (1, 1), (2, 1), (3, 1), (4, 1), (5, 1), (6, 1), (7, 1), (8, 1), (9, 1), (10, 1)] w := by kernel_rfl
theorem Try.places61 (w : World) : (placesOf 61).run Try.prog w = .ok #[(0, 1), (1, 1)] w := by kernel_rfl
theorem Try.places70 (w : World) : (placesOf 70).run Try.prog w = .ok #[(0, 2)] w := by kernel_rfl
theorem Try.places78 (w : World) : (placesOf 78).run Try.prog w = .ok #[(0, 1), (1, 1), (2, 1), (3, 1)] w := by kernel_rfl
theorem Try.places85 (w : World) : (placesOf 85).run Try.prog w = .ok #[(0, 1), (1, 1), (2, 1)] w := by kernel_rfl
end Go.Proofs
