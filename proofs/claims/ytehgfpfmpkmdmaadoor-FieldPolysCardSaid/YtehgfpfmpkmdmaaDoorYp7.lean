-- WZeros (what this claim uses of them)
import Derived.Test.YtehgfpfmpkmdmaaDoorYp5
import Derived.Test.YtehgfpfmpkmdmaaDoorYp6
