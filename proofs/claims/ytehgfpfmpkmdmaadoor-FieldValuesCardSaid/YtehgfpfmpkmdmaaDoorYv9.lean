-- WKept (what this claim uses of them)
import Derived.Test.YtehgfpfmpkmdmaaDoorYv8
